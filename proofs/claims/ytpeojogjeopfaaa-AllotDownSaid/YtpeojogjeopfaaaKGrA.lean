/- Lemmas. Conditions: those of each theorem. -/
import Derived.Test.YtpeojogjeopfaaaKWalkC
set_option maxRecDepth 8000
set_option maxHeartbeats 16000000
namespace Go.Proofs.Ytpeojogjeopfaaa
open Go Go.K Go.RowKit
instance : Rep Gr.Arc where
  sz := 2
  bytes := 16
  rep := fun _ a cs => cs = [.int .i64 a.From, .int .i64 a.To] ∧ I64 a.From ∧ I64 a.To
  len := fun h => by rw [h.1]; rfl
  mono := fun _ h => h
  one := fun h u hu => by
    rw [h.1] at hu
    rcases List.mem_cons.1 hu with rfl | hu
    · rfl
    · obtain rfl : u = _ := by simpa using hu
      rfl
instance : RepE Gr.Arc where
  cells := fun a => [.int .i64 a.From, .int .i64 a.To]
  wf := fun a => I64 a.From ∧ I64 a.To
  iff := Iff.rfl
theorem Right_c (w : World) (Φ : Hp) (hΦ : Hp.le Φ (hp w)) {arcs : List Gr.Arc} {v1 : Value} (h1 : RepSl Φ arcs v1) {n : Int} :
    Calls pg 66 #[.int .i64 n, v1] w fun e w' => e = .returned (.bool (Gr.rightB n arcs)) ∧ Bel w.heap.size w w' := by
  refine calls_of_AW (args := [.int .i64 n, v1]) Try.func66 rfl (lBT rfl) (St ⟨w, Φ, []⟩ Φ []) (StP.init w Φ hΦ []) ?_
  show AW pg 45 [] _ _ _ [(0, .int .i64 n), (1, v1)] _
  have hmh1 : arcs.length * 16 ≤ 140737488355328 := h1.max
  refine AW.seq ?_
  refine AW.region ?_
  refine RW.q (v := .bool false) rfl (q_assign rfl) ?_
  refine RW.nil ?_
  refine Post.then_n ?_
  refine AW.seq ?_
  refine AW.seq ?_
  refine AW.region ?_
  refine RW.q rfl (q_move rfl) ?_
  refine RW.q (v := .bool (decide (n < 0))) rfl (q_lss rfl rfl) ?_
  refine RW.q rfl (q_move rfl) ?_
  refine RW.g (b := (decide (n < 0))) (v := .int .i64 n) rfl rfl rfl (fun h => q_move rfl) ?_
  refine RW.g (b := (decide (n < 0))) (v := .bool (decide ((256 : Int) < n))) rfl rfl rfl (fun h => q_gtr (gv_pos h) rfl) ?_
  refine RW.q (v := .bool ((decide (n < 0)) || (decide ((256 : Int) < n)))) rfl (qpO rfl rfl rfl) ?_
  refine RW.q rfl (q_move rfl) ?_
  refine RW.g (b := ((decide (n < 0)) || (decide ((256 : Int) < n)))) (v := v1) rfl rfl rfl (fun h => q_move rfl) ?_
  refine RW.g (b := ((decide (n < 0)) || (decide ((256 : Int) < n)))) (v := .int .i64 ((arcs.length : Nat) : Int)) rfl rfl rfl (fun h => q_len_sl (gv_pos h) h1.sl Try.underlying57) ?_
  refine RW.g (b := ((decide (n < 0)) || (decide ((256 : Int) < n)))) (v := .bool (decide ((4096 : Int) < ((arcs.length : Nat) : Int)))) rfl rfl rfl (fun h => q_gtr (gv_pos h) rfl) ?_
  refine RW.q (v := .bool (((decide (n < 0)) || (decide ((256 : Int) < n))) || (decide ((4096 : Int) < ((arcs.length : Nat) : Int))))) rfl (qpO rfl rfl rfl) ?_
  refine RW.nil ?_
  refine Post.then_n ?_
  refine AW.cond (b := ((decide (n < 0)) || (decide ((256 : Int) < n))) || (decide ((4096 : Int) < ((arcs.length : Nat) : Int)))) rfl (fun hc1 => ?_) (fun hc1 => ?_)
  · simp [-List.getD_eq_getElem?_getD] at hc1
    refine AW.seq ?_
    refine AW.region ?_
    refine RW.q (v := .bool false) rfl (q_assign rfl) ?_
    refine RW.nil ?_
    refine Post.then_n ?_
    refine AW.ret ?_
    refine Post.then_r ?_
    exact fin_val (v' := .bool false) rfl rfl rfl (by rw [Gr.right_f1 (by omega)])
  · simp [-List.getD_eq_getElem?_getD] at hc1
    refine AW.skip ?_
    refine Post.then_n ?_
    refine AW.seq ?_
    refine AW.seq ?_
    refine AW.region ?_
    refine RW.q rfl (q_move rfl) ?_
    refine RW.q (v := .int .i64 ((arcs.length : Nat) : Int)) rfl (q_len_sl rfl h1.sl Try.underlying57) ?_
    refine RW.q rfl (q_move rfl) ?_
    refine RW.nil ?_
    refine Post.then_n ?_
    refine AW.block ?_
    refine AW.loop (fun s J m => ∃ (k : Nat), s = [(0, .int .i64 n), (1, v1), (18, v1), (19, .int .i64 ((arcs.length : Nat) : Int)), (20, .int .i64 (k : Int))] ∧ J = St ⟨w, Φ, []⟩ Φ [] ∧ m = arcs.length - k ∧ (k ≤ arcs.length) ∧ (∀ j, j < k → 0 ≤ (arcs.getD j default).From ∧ (arcs.getD j default).From < n ∧ 0 ≤ (arcs.getD j default).To ∧ (arcs.getD j default).To < n)) (s0 := _) (J1 := _) (m0 := _) ⟨0, rfl, rfl, rfl, (by omega), (by omega)⟩ ⟨rfl, rfl, rfl, rfl, rfl, trivial⟩ (fun _ h => h) ?_
    rintro _ _ _ _ ⟨k, rfl, rfl, rfl, hk, heq⟩
    refine AW.seq ?_
    refine AW.region ?_
    refine RW.q (v := .bool (decide ((k : Int) < ((arcs.length : Nat) : Int)))) rfl (q_lss rfl rfl) ?_
    refine RW.nil ?_
    refine Post.then_n ?_
    refine AW.seq ?_
    refine AW.cond (b := decide ((k : Int) < ((arcs.length : Nat) : Int))) rfl (fun hc2 => ?_) (fun hc2 => ?_)
    · simp [-List.getD_eq_getElem?_getD] at hc2
      refine AW.skip ?_
      refine Post.then_n ?_
      refine AW.seq ?_
      refine AW.block ?_
      refine AW.seq ?_
      refine AW.region ?_
      refine RW.q (v := .pointer (some (Value.at v1 (k * 2)))) rfl (q_indexAddr rfl rfl h1.sl Try.underlying57 sz73 (by omega) (by omega) rfl) ?_
      refine RW.q (v := .agg #[.int .i64 ((arcs.getD k default).From), .int .i64 ((arcs.getD k default).To)]) rfl (q_loadAgg rfl Try.underlying73 rfl sz73 rfl (Cells.repE h1 (by omega) rfl)) ?_
      refine RW.eff (fun b1 : Nat => .pointer (some (⟨b1, 0, none⟩))) (fun b1 => St ⟨w, Φ, []⟩ Φ [.blk b1 73 [.int .i64 0, .int .i64 0]]) rfl (e_alloc zero73) ?_
      intro b1
      refine RW.effn (J' := St ⟨w, Φ, []⟩ Φ [.blk b1 73 [.int .i64 ((arcs.getD k default).From), .int .i64 ((arcs.getD k default).To)]]) (e_store (v := .agg #[.int .i64 ((arcs.getD k default).From), .int .i64 ((arcs.getD k default).To)]) 0 rfl rfl rfl sz73 rfl rfl rfl rfl rfl) ?_
      refine RW.nil ?_
      refine Post.then_n ?_
      refine AW.seq ?_
      refine AW.region ?_
      refine RW.q (v := .pointer (some (⟨b1, 0, none⟩))) rfl (q_fieldAddr rfl Try.underlying73 rfl sz3 rfl) ?_
      refine RW.q (v := .int .i64 ((arcs.getD k default).From)) rfl (q_load rfl Try.underlying3 rfl (Cell.blk 0 rfl rfl)) ?_
      refine RW.q (v := .bool (decide ((arcs.getD k default).From < 0))) rfl (q_lss rfl rfl) ?_
      refine RW.q rfl (q_move rfl) ?_
      refine RW.g (b := (decide ((arcs.getD k default).From < 0))) (v := .pointer (some (⟨b1, 0, none⟩))) rfl rfl rfl (fun h => q_fieldAddr rfl Try.underlying73 rfl sz3 rfl) ?_
      refine RW.g (b := (decide ((arcs.getD k default).From < 0))) (v := .int .i64 ((arcs.getD k default).From)) rfl rfl rfl (fun h => q_load (gv_pos h) Try.underlying3 rfl (Cell.blk 0 rfl rfl)) ?_
      refine RW.g (b := (decide ((arcs.getD k default).From < 0))) (v := .int .i64 n) rfl rfl rfl (fun h => q_move rfl) ?_
      refine RW.g (b := (decide ((arcs.getD k default).From < 0))) (v := .bool (decide (n ≤ (arcs.getD k default).From))) rfl rfl rfl (fun h => q_geq (gv_pos h) (gv_pos h)) ?_
      refine RW.q (v := .bool ((decide ((arcs.getD k default).From < 0)) || (decide (n ≤ (arcs.getD k default).From)))) rfl (qpO rfl rfl rfl) ?_
      refine RW.q rfl (q_move rfl) ?_
      refine RW.g (b := ((decide ((arcs.getD k default).From < 0)) || (decide (n ≤ (arcs.getD k default).From)))) (v := .pointer (some (⟨b1, 1, none⟩))) rfl rfl rfl (fun h => q_fieldAddr rfl Try.underlying73 rfl sz3 rfl) ?_
      refine RW.g (b := ((decide ((arcs.getD k default).From < 0)) || (decide (n ≤ (arcs.getD k default).From)))) (v := .int .i64 ((arcs.getD k default).To)) rfl rfl rfl (fun h => q_load (gv_pos h) Try.underlying3 rfl (Cell.blk 0 rfl rfl)) ?_
      refine RW.g (b := ((decide ((arcs.getD k default).From < 0)) || (decide (n ≤ (arcs.getD k default).From)))) (v := .bool (decide ((arcs.getD k default).To < 0))) rfl rfl rfl (fun h => q_lss (gv_pos h) rfl) ?_
      refine RW.q (v := .bool (((decide ((arcs.getD k default).From < 0)) || (decide (n ≤ (arcs.getD k default).From))) || (decide ((arcs.getD k default).To < 0)))) rfl (qpO rfl rfl rfl) ?_
      refine RW.q (v := .bool (((decide ((arcs.getD k default).From < 0)) || (decide (n ≤ (arcs.getD k default).From))) || (decide ((arcs.getD k default).To < 0)))) rfl (q_move rfl) ?_
      refine RW.g (b := (((decide ((arcs.getD k default).From < 0)) || (decide (n ≤ (arcs.getD k default).From))) || (decide ((arcs.getD k default).To < 0)))) (v := .pointer (some (⟨b1, 1, none⟩))) rfl rfl rfl (fun h => q_fieldAddr rfl Try.underlying73 rfl sz3 rfl) ?_
      refine RW.g (b := (((decide ((arcs.getD k default).From < 0)) || (decide (n ≤ (arcs.getD k default).From))) || (decide ((arcs.getD k default).To < 0)))) (v := .int .i64 ((arcs.getD k default).To)) rfl rfl rfl (fun h => q_load (gv_pos h) Try.underlying3 rfl (Cell.blk 0 rfl rfl)) ?_
      refine RW.g (b := (((decide ((arcs.getD k default).From < 0)) || (decide (n ≤ (arcs.getD k default).From))) || (decide ((arcs.getD k default).To < 0)))) (v := .int .i64 n) rfl rfl rfl (fun h => q_move rfl) ?_
      refine RW.g (b := (((decide ((arcs.getD k default).From < 0)) || (decide (n ≤ (arcs.getD k default).From))) || (decide ((arcs.getD k default).To < 0)))) (v := .bool (decide (n ≤ (arcs.getD k default).To))) rfl rfl rfl (fun h => q_geq (gv_pos h) (gv_pos h)) ?_
      refine RW.q (v := .bool ((((decide ((arcs.getD k default).From < 0)) || (decide (n ≤ (arcs.getD k default).From))) || (decide ((arcs.getD k default).To < 0))) || (decide (n ≤ (arcs.getD k default).To)))) rfl (qpO rfl rfl rfl) ?_
      refine RW.nil ?_
      refine Post.then_n ?_
      refine AW.cond (b := (((decide ((arcs.getD k default).From < 0)) || (decide (n ≤ (arcs.getD k default).From))) || (decide ((arcs.getD k default).To < 0))) || (decide (n ≤ (arcs.getD k default).To))) rfl (fun hc3 => ?_) (fun hc3 => ?_)
      · simp [-List.getD_eq_getElem?_getD] at hc3
        refine AW.seq ?_
        refine AW.region ?_
        refine RW.q (v := .bool false) rfl (q_assign rfl) ?_
        refine RW.nil ?_
        refine Post.then_n ?_
        refine AW.ret ?_
        refine Post.blk_r (Post.then_r (Post.then_r (Post.blk_r (Post.then_r ?_))))
        exact fin_val (v' := .bool false) rfl rfl rfl (by rw [Gr.right_f2 (k := k) (by omega) (by omega)])
      · simp [-List.getD_eq_getElem?_getD] at hc3
        refine AW.skip ?_
        refine Post.blk_n (Post.then_n ?_)
        refine AW.region ?_
        refine RW.q (v := .int .i64 ((k + 1 : Nat) : Int)) rfl (q_add rfl rfl (by omega) (by unfold I64; omega)) ?_
        refine RW.q rfl (q_move rfl) ?_
        refine RW.nil ?_
        exact Post.back (s' := _) (J' := _) (m' := _) (by omega) ⟨k + 1, rfl, rfl, rfl, (by omega), (Gr.lt_succ heq (by omega))⟩ ⟨rfl, rfl, rfl, rfl, rfl, trivial⟩ (fun _ h => StP.drop h (by exact .cons _ (.slnil)))
    · simp [-List.getD_eq_getElem?_getD] at hc2
      refine AW.exit ?_
      refine Post.then_x (Post.then_x (Post.blk_hit (Post.then_n ?_)))
      refine AW.seq ?_
      refine AW.region ?_
      refine RW.q (v := .bool true) rfl (q_assign rfl) ?_
      refine RW.nil ?_
      refine Post.then_n ?_
      refine AW.ret ?_
      exact fin_val (v' := .bool true) rfl rfl rfl (by rw [Gr.right_t (by omega) (fun j hj => heq j (by omega))])

theorem zip_get {α β : Type} {l : List α} {r : List β} {i : Nat} {a : α} {b : β} (ha : l[i]? = some a) (hb : r[i]? = some b) : (l.zip r)[i]? = some (a, b) := by
  exact (List.getElem?_zip_eq_some (z := (a, b))).2 ⟨ha, hb⟩
def fam (vs : List Value) (xss : List (List Int)) : List Chunk := (vs.zip xss).map fun p => .row p.1 3 1 p.2.length (p.2.map (Value.int .i64))
theorem fam_get {vs : List Value} {xss : List (List Int)} {i : Nat} (hv : i < vs.length) (hx : i < xss.length) : (fam vs xss)[i]? = some (.row (vs.getD i undef) 3 1 (xss.getD i []).length ((xss.getD i []).map (Value.int .i64))) := by
  unfold fam
  rw [List.getElem?_map, zip_get (List.getElem?_eq_getElem hv) (List.getElem?_eq_getElem hx)]
  simp [hv, hx]
theorem fam_set {vs : List Value} {xss : List (List Int)} {i : Nat} {v : Value} {xs : List Int} : (fam vs xss).set i (.row v 3 1 xs.length (xs.map (Value.int .i64))) = fam (vs.set i v) (xss.set i xs) := by
  unfold fam
  apply List.ext_getElem?
  intro j
  by_cases hij : i = j
  · subst hij
    by_cases hl : i < min vs.length xss.length
    · rw [List.getElem?_set_self (by simpa using hl), List.getElem?_map, zip_get (a := v) (b := xs) (List.getElem?_set_self (by omega)) (List.getElem?_set_self (by omega))]; rfl
    · rw [List.getElem?_eq_none (by simp; omega), List.getElem?_eq_none (by simp; omega)]
  · rw [List.getElem?_set_ne hij, List.getElem?_map, List.getElem?_map]
    congr 1
    have h1 : (vs.set i v)[j]? = vs[j]? := List.getElem?_set_ne hij
    have h2 : (xss.set i xs)[j]? = xss[j]? := List.getElem?_set_ne hij
    cases hv : vs[j]? with
    | none => (have h3 := List.getElem?_eq_none_iff.1 hv; rw [List.getElem?_eq_none (by simp; omega), List.getElem?_eq_none (by simp; omega)])
    | some a =>
      cases hx : xss[j]? with
      | none => (have h3 := List.getElem?_eq_none_iff.1 hx; rw [List.getElem?_eq_none (by simp; omega), List.getElem?_eq_none (by simp; omega)])
      | some b => rw [zip_get hv hx, zip_get (h1.trans hv) (h2.trans hx)]
theorem made_nil {n c m : Nat} (h : n ≤ c) (hm : m = n * 1 := by rfl) : (madeCells (Value.slice none 0 0).cells (c * 1)).toList.take m = List.replicate n (Value.slice none 0 0) := by
  subst hm
  show (madeCells #[Value.slice none 0 0] (c * 1)).toList.take (n * 1) = _
  rw [madeCells_one]; simp [List.take_replicate, Nat.min_eq_left h]
def IsVis (Φ : Hp) (n : Nat) (arcs : List Gr.Arc) (fv : Value) : Prop := ∃ b nv, fv = .func (.func 76) #[] #[.pointer (some ⟨b, 0, none⟩)] ∧ PCell Φ ⟨b, 0, none⟩ nv ∧ RepSl Φ (Gr.table n arcs) nv
theorem IsVis.mono {Φ Ψ : Hp} {n : Nat} {arcs : List Gr.Arc} {fv : Value} (h : IsVis Φ n arcs fv) (hl : Hp.le Φ Ψ) : IsVis Ψ n arcs fv := let ⟨b, nv, h1, h2, h3⟩ := h; ⟨b, nv, h1, h2.mono hl, h3.mono hl⟩
theorem StP.addTriv {B : Bs} {Φ : Hp} {C C' : List Chunk} {w : World} (h : StP B Φ C w) (hc : ∀ c ∈ C', c.fp = [] ∧ ∀ Φ, c.sat Φ) : StP B Φ (C ++ C') w := by
  have hf : ∀ b, b ∈ (C ++ C').flatMap (·.fp) → b ∈ C.flatMap (·.fp) := fun b hb => by
    obtain ⟨c, hcm, hbc⟩ := List.mem_flatMap.1 hb
    rcases List.mem_append.1 hcm with h1 | h1
    · exact List.mem_flatMap.2 ⟨c, h1, hbc⟩
    · rw [(hc c h1).1] at hbc; cases hbc
  refine { h with sat := fun c hcm => ?_, sep := List.pairwise_append.2 ⟨h.sep, ?_, ?_⟩, away := fun b hb => h.away b (hf b hb) }
  · rcases List.mem_append.1 hcm with h1 | h1
    · exact h.sat c h1
    · exact (hc c h1).2 _
  · refine List.pairwise_of_forall_mem_list ?_
    intro a ha b hb x hx
    rw [(hc a ha).1] at hx; cases hx
  · intro a ha b hb x hx hx'
    rw [(hc b hb).1] at hx'; cases hx'
theorem fam_nil {n : Nat} : ∀ c ∈ fam (List.replicate n (Value.slice none 0 0)) (Gr.table n []), c.fp = [] ∧ ∀ Φ, c.sat Φ := fun c hc => by
  unfold fam at hc
  obtain ⟨⟨v, xs⟩, hp, rfl⟩ := List.mem_map.1 hc
  have h1 := (List.of_mem_zip hp).1
  have h2 := (List.of_mem_zip hp).2
  obtain rfl := List.eq_of_mem_replicate h1
  have h3 : xs = [] := by
    unfold Gr.table at h2
    obtain ⟨i, _, rfl⟩ := List.mem_map.1 h2
    simp [Gr.succs]
  subst h3
  exact ⟨rfl, fun Φ => ⟨rfl, .inl ⟨rfl, rfl⟩⟩⟩
theorem visitor_c (w : World) (Φ : Hp) (hΦ : Hp.le Φ (hp w)) {n : Nat} {arcs : List Gr.Arc} {v1 : Value} (h1 : RepSl Φ arcs v1) (hn : n ≤ 256) (hl : arcs.length ≤ 4096) (hok : Gr.Ok n arcs) :
    Calls pg 68 #[.int .i64 (n : Int), v1] w (RetS noHp w fun r Ψ => IsVis Ψ n arcs r) := by
  refine calls_of_AW (args := [.int .i64 (n : Int), v1]) Try.func68 rfl (lBT rfl) (St ⟨w, Φ, []⟩ Φ []) (StP.init w Φ hΦ []) ?_
  show AW pg 31 [] _ _ _ [(0, .int .i64 (n : Int)), (1, v1)] _
  have hfa0 := fun (k : Nat) (hk : k < arcs.length) => hok (arcs.getD k default) (by simp [hk])
  refine AW.seq ?_
  refine AW.region ?_
  refine RW.q (v := .nilFunc) rfl (q_assign rfl) ?_
  refine RW.nil ?_
  refine Post.then_n ?_
  refine AW.seq ?_
  refine AW.region ?_
  refine RW.q rfl (q_move rfl) ?_
  refine RW.eff (fun b1 : Nat => (.slice (some ⟨b1, 0, none⟩) n n)) (fun b1 => St ⟨w, Φ, []⟩ Φ [.row (.slice (some ⟨b1, 0, none⟩) n n) 29 1 n (List.replicate n (Value.slice none 0 0))]) rfl (e_makeSlice rfl rfl Try.underlying126 inf29 (by omega) (by omega) (by omega) rfl (made_nil (by omega))) ?_
  intro b1
  refine RW.eff (fun b2 : Nat => .pointer (some (⟨b2, 0, none⟩))) (fun b2 => St ⟨w, Φ, []⟩ Φ [.blk b2 126 [(.slice none 0 0)], .row (.slice (some ⟨b1, 0, none⟩) n n) 29 1 n (List.replicate n (Value.slice none 0 0))]) rfl (e_alloc zero126) ?_
  intro b2
  refine RW.effn (J' := St ⟨w, Φ, []⟩ Φ [.blk b2 126 [(.slice (some ⟨b1, 0, none⟩) n n)], .row (.slice (some ⟨b1, 0, none⟩) n n) 29 1 n (List.replicate n (Value.slice none 0 0))]) (e_store (v := (.slice (some ⟨b1, 0, none⟩) n n)) 0 rfl rfl rfl sz126 rfl rfl rfl rfl rfl) ?_
  refine RW.nil ?_
  refine Post.then_n ?_
  refine AW.seq ?_
  refine AW.seq ?_
  refine AW.region ?_
  refine RW.q rfl (q_move rfl) ?_
  refine RW.q (v := .int .i64 ((arcs.length : Nat) : Int)) rfl (q_len_sl rfl h1.sl Try.underlying57) ?_
  refine RW.q rfl (q_move rfl) ?_
  refine RW.nil ?_
  refine Post.then_n ?_
  refine AW.block ?_
  refine AW.loop (fun s J m => ∃ (k : Nat), ∃ (vs : List Value), s = [(10, v1), (11, .int .i64 ((arcs.length : Nat) : Int)), (12, .int .i64 (k : Int)), (5, .pointer (some (⟨b2, 0, none⟩)))] ∧ J = St ⟨w, Φ, []⟩ Φ ([.blk b2 126 [(.slice (some ⟨b1, 0, none⟩) n n)], .row (.slice (some ⟨b1, 0, none⟩) n n) 29 1 n vs] ++ fam vs (Gr.table n (arcs.take k))) ∧ m = arcs.length - k ∧ (k ≤ arcs.length) ∧ (vs.length = n)) (s0 := _) (J1 := _) (m0 := _) ⟨0, List.replicate n (Value.slice none 0 0), rfl, rfl, rfl, (by omega), (by simp)⟩ ⟨rfl, rfl, rfl, rfl, trivial⟩ (fun _ h => by rw [List.take_zero]; exact StP.addTriv h fam_nil) ?_
  rintro _ _ _ _ ⟨k, vs, rfl, rfl, rfl, hk, hvl⟩
  refine AW.seq ?_
  refine AW.region ?_
  refine RW.q (v := .bool (decide ((k : Int) < ((arcs.length : Nat) : Int)))) rfl (q_lss rfl rfl) ?_
  refine RW.nil ?_
  refine Post.then_n ?_
  refine AW.seq ?_
  refine AW.cond (b := decide ((k : Int) < ((arcs.length : Nat) : Int))) rfl (fun hc1 => ?_) (fun hc1 => ?_)
  · simp [-List.getD_eq_getElem?_getD] at hc1
    refine AW.skip ?_
    refine Post.then_n ?_
    refine AW.seq ?_
    refine AW.block ?_
    refine AW.seq ?_
    refine AW.region ?_
    refine RW.q (v := .pointer (some (Value.at v1 (k * 2)))) rfl (q_indexAddr rfl rfl h1.sl Try.underlying57 sz73 (by omega) (by omega) rfl) ?_
    refine RW.q (v := .agg #[.int .i64 ((arcs.getD k default).From), .int .i64 ((arcs.getD k default).To)]) rfl (q_loadAgg rfl Try.underlying73 rfl sz73 rfl (Cells.repE h1 (by omega) rfl)) ?_
    refine RW.eff (fun b3 : Nat => .pointer (some (⟨b3, 0, none⟩))) (fun b3 => St ⟨w, Φ, []⟩ Φ ([.blk b3 73 [.int .i64 0, .int .i64 0], .blk b2 126 [(.slice (some ⟨b1, 0, none⟩) n n)], .row (.slice (some ⟨b1, 0, none⟩) n n) 29 1 n vs] ++ fam vs (Gr.table n (arcs.take k)))) rfl (e_alloc zero73) ?_
    intro b3
    refine RW.effn (J' := St ⟨w, Φ, []⟩ Φ ([.blk b3 73 [.int .i64 ((arcs.getD k default).From), .int .i64 ((arcs.getD k default).To)], .blk b2 126 [(.slice (some ⟨b1, 0, none⟩) n n)], .row (.slice (some ⟨b1, 0, none⟩) n n) 29 1 n vs] ++ fam vs (Gr.table n (arcs.take k)))) (e_store (v := .agg #[.int .i64 ((arcs.getD k default).From), .int .i64 ((arcs.getD k default).To)]) 0 rfl rfl rfl sz73 rfl rfl rfl rfl rfl) ?_
    refine RW.nil ?_
    refine Post.then_n ?_
    have hfa := hfa0 k (by omega)
    have hin : (arcs.getD k default).From.toNat < n := by omega
    have hiv : (arcs.getD k default).From.toNat < vs.length := by rw [hvl]; exact hin
    have hit : (arcs.getD k default).From.toNat < (Gr.table n (arcs.take k)).length := by rw [Gr.table_len]; exact hin
    have hsl : ((Gr.table n (arcs.take k)).getD (arcs.getD k default).From.toNat []).length ≤ 4096 := by rw [Gr.table_get hin]; have := Gr.succs_len (arcs.take k) ((arcs.getD k default).From.toNat : Nat); simp only [List.length_take] at this; omega
    refine AW.draw (J0 := St ⟨w, Φ, []⟩ Φ [.blk b3 73 [.int .i64 (arcs.getD k default).From, .int .i64 (arcs.getD k default).To], .blk b2 126 [(.slice (some ⟨b1, 0, none⟩) n n)], .row (.slice (some ⟨b1, 0, none⟩) n n) 29 1 n vs]) [.q, .q, .q, .q, .q, .q, .q, .q, .q, .q, .e, .e, .q, .e] [0, 1, 2, 3, 4, 5, 6, 7, 8, 9, 10, 11, 12, 13] hmix (by kernel_rfl) ?_
    refine DW.q (v := (.slice (some ⟨b1, 0, none⟩) n n)) (fun _ h => StP.drop h (List.sublist_append_left _ _)) rfl (q_load rfl Try.underlying126 rfl (Cell.blk 1 rfl rfl)) ?_
    refine DW.q (v := .pointer (some ⟨b3, 0, none⟩)) (fun _ h => StP.drop h (List.sublist_append_left _ _)) rfl (q_fieldAddr rfl Try.underlying73 rfl sz3 rfl) ?_
    refine DW.q (v := .int .i64 (arcs.getD k default).From) (fun _ h => StP.drop h (List.sublist_append_left _ _)) rfl (q_load rfl Try.underlying3 rfl (Cell.blk 0 rfl rfl)) ?_
    refine DW.q (v := (.slice (some ⟨b1, 0, none⟩) n n)) (fun _ h => StP.drop h (List.sublist_append_left _ _)) rfl (q_load rfl Try.underlying126 rfl (Cell.blk 1 rfl rfl)) ?_
    refine DW.q (v := .pointer (some ⟨b3, 0, none⟩)) (fun _ h => StP.drop h (List.sublist_append_left _ _)) rfl (q_fieldAddr rfl Try.underlying73 rfl sz3 rfl) ?_
    refine DW.q (v := .int .i64 (arcs.getD k default).From) (fun _ h => StP.drop h (List.sublist_append_left _ _)) rfl (q_load rfl Try.underlying3 rfl (Cell.blk 0 rfl rfl)) ?_
    refine DW.q (v := .pointer (some (Value.at (.slice (some ⟨b1, 0, none⟩) n n) ((arcs.getD k default).From.toNat * 1)))) (fun _ h => StP.drop h (List.sublist_append_left _ _)) rfl (q_indexAddr rfl rfl isSl_mk Try.underlying126 sz29 (by omega) (by omega) rfl) ?_
    refine DW.q (v := (vs.getD (arcs.getD k default).From.toNat undef)) (fun _ h => StP.drop h (List.sublist_append_left _ _)) rfl (q_load rfl Try.underlying29 rfl (Cell.row 2 rfl (getD_some1 hiv))) ?_
    refine DW.q (v := .pointer (some ⟨b3, 1, none⟩)) (fun _ h => StP.drop h (List.sublist_append_left _ _)) rfl (q_fieldAddr rfl Try.underlying73 rfl sz3 rfl) ?_
    refine DW.q (v := .int .i64 (arcs.getD k default).To) (fun _ h => StP.drop h (List.sublist_append_left _ _)) rfl (q_load rfl Try.underlying3 rfl (Cell.blk 0 rfl rfl)) ?_
    refine DW.eff (fun b4 : Nat => .slice (some ⟨b4, 0, none⟩) 1 1) (fun b4 => St ⟨w, Φ, []⟩ Φ (.row (.slice (some ⟨b4, 0, none⟩) 1 1) 3 1 1 [.int .i64 (arcs.getD k default).To] :: [.blk b3 73 [.int .i64 (arcs.getD k default).From, .int .i64 (arcs.getD k default).To], .blk b2 126 [(.slice (some ⟨b1, 0, none⟩) n n)], .row (.slice (some ⟨b1, 0, none⟩) n n) 29 1 n vs] ++ fam vs (Gr.table n (arcs.take k)))) (fun _ _ _ h => StP.drop h (.cons _ (List.sublist_append_left _ _))) rfl (e_buildSlice (vals := [(0, .int .i64 (arcs.getD k default).To)]) (cells := [.int .i64 (arcs.getD k default).To]) Try.underlying29 inf3 rfl rfl rfl (by kernel_rfl) rfl) ?_
    intro b4
    have hget : ((.row (.slice (some ⟨b4, 0, none⟩) 1 1) 3 1 1 [.int .i64 (arcs.getD k default).To] :: [.blk b3 73 [.int .i64 (arcs.getD k default).From, .int .i64 (arcs.getD k default).To], .blk b2 126 [(.slice (some ⟨b1, 0, none⟩) n n)], .row (.slice (some ⟨b1, 0, none⟩) n n) 29 1 n vs] ++ fam vs (Gr.table n (arcs.take k))) : List Chunk)[4 + (arcs.getD k default).From.toNat]? = some (.row (vs.getD (arcs.getD k default).From.toNat undef) 3 1 ((Gr.table n (arcs.take k)).getD (arcs.getD k default).From.toNat []).length (((Gr.table n (arcs.take k)).getD (arcs.getD k default).From.toNat []).map (Value.int .i64))) := by
      rw [show 4 + (arcs.getD k default).From.toNat = ((arcs.getD k default).From.toNat + 3) + 1 by omega]; simp only [List.cons_append, List.nil_append, List.getElem?_cons_succ]; exact fam_get hiv hit
    refine DW.eff (fun x : {v : Value // IsSl v (((Gr.table n (arcs.take k)).getD (arcs.getD k default).From.toNat []).length + 1)} => x.1) (fun x => St ⟨w, Φ, []⟩ Φ (.row (.slice (some ⟨b4, 0, none⟩) 1 1) 3 1 1 [.int .i64 (arcs.getD k default).To] :: [.blk b3 73 [.int .i64 (arcs.getD k default).From, .int .i64 (arcs.getD k default).To], .blk b2 126 [(.slice (some ⟨b1, 0, none⟩) n n)], .row (.slice (some ⟨b1, 0, none⟩) n n) 29 1 n vs] ++ fam (vs.set (arcs.getD k default).From.toNat x.1) (Gr.table n (arcs.take (k + 1))))) (fun _ _ _ h => StP.drop h (.cons _ (List.sublist_append_left _ _))) rfl (e_append (4 + (arcs.getD k default).From.toNat) hget rfl rfl Try.underlying29 inf3 rfl rfl rfl (Cells.row0 0 rfl) rfl (by omega) (by omega) (fun y => ?_)) ?_
    · rw [Gr.table_step hok (by omega), ← fam_set, show 4 + (arcs.getD k default).From.toNat = ((arcs.getD k default).From.toNat + 3) + 1 by omega]
      simp only [List.cons_append, List.nil_append, List.set_cons_succ, List.map_append, List.map_cons, List.map_nil, List.length_append, List.length_cons, List.length_nil, Nat.zero_add]
    rintro ⟨v5, hv5⟩
    refine DW.q (v := .pointer (some (Value.at (.slice (some ⟨b1, 0, none⟩) n n) ((arcs.getD k default).From.toNat * 1)))) (fun _ h => StP.drop h (.cons _ (List.sublist_append_left _ _))) rfl (q_indexAddr rfl rfl isSl_mk Try.underlying126 sz29 (by omega) (by omega) rfl) ?_
    have hone : v5.cells.size = 1 ∧ v5.cells.toList = [v5] ∧ v5.oneCell' = true := by obtain ⟨A, c, rfl, _⟩ := hv5; exact ⟨rfl, rfl, rfl⟩
    refine DW.effn (J' := St ⟨w, Φ, []⟩ Φ (.row (.slice (some ⟨b4, 0, none⟩) 1 1) 3 1 1 [.int .i64 (arcs.getD k default).To] :: .blk b3 73 [.int .i64 (arcs.getD k default).From, .int .i64 (arcs.getD k default).To] :: .blk b2 126 [(.slice (some ⟨b1, 0, none⟩) n n)] :: .row (.slice (some ⟨b1, 0, none⟩) n n) 29 1 n (vs.set (arcs.getD k default).From.toNat v5) :: fam (vs.set (arcs.getD k default).From.toNat v5) (Gr.table n (arcs.take (k + 1))))) (fun h => absurd rfl h) (e_storeRow (v := v5) 3 rfl rfl rfl sz29 hone.1 (by rw [hone.2.1]; simp [hone.2.2]) (by omega) (by rw [hone.2.1]; exact splice_one hiv) rfl) ?_
    refine DW.nil ?_
    refine Post.blk_n (Post.then_n ?_)
    refine AW.region ?_
    refine RW.q (v := .int .i64 ((k + 1 : Nat) : Int)) rfl (q_add rfl rfl (by omega) (by unfold I64; omega)) ?_
    refine RW.q rfl (q_move rfl) ?_
    refine RW.nil ?_
    exact Post.back (s' := _) (J' := _) (m' := _) (by omega) ⟨k + 1, vs.set (arcs.getD k default).From.toNat v5, rfl, rfl, rfl, (by omega), (by simp [hvl])⟩ ⟨rfl, rfl, rfl, rfl, trivial⟩ (fun _ h => StP.drop h (.cons _ (.cons _ (List.Sublist.refl _))))
  · simp [-List.getD_eq_getElem?_getD] at hc1
    refine AW.exit ?_
    refine Post.then_x (Post.then_x (Post.blk_hit (Post.then_n ?_)))
    refine AW.seq ?_
    refine AW.region ?_
    refine RW.q (v := .func (.func 76) #[] #[.pointer (some (⟨b2, 0, none⟩))]) rfl (q_makeFunc rfl rfl) ?_
    refine RW.q (v := .func (.func 76) #[] #[.pointer (some (⟨b2, 0, none⟩))]) rfl (q_assign rfl) ?_
    refine RW.nil ?_
    refine Post.then_n ?_
    refine AW.ret ?_
    refine fin_rep rfl rfl rfl (fun w' hw => ⟨b2, .slice (some ⟨b1, 0, none⟩) n n, rfl, ⟨_, _, _, blk_ext hw 0 rfl, rfl, rfl⟩, ?_⟩)
    obtain rfl : k = arcs.length := by omega
    rw [List.take_length] at hw
    have hro := row_ext (Φr := noHp) hw 1 rfl
    refine ⟨by rw [Gr.table_len]; exact isSl_mk, by rw [Gr.table_len]; simp only [Rep.bytes, maxSl]; omega, fun i hi => ?_⟩
    have hin : i < n := by rw [Gr.table_len] at hi; exact hi
    have hiv : i < vs.length := by rw [hvl]; exact hin
    have hri := row_ext (Φr := noHp) hw (i + 2) (show ([_, _] ++ fam vs (Gr.table n arcs))[i + 2]? = _ from fam_get hiv hi)
    have hsl : ((Gr.table n arcs).getD i []).length ≤ 4096 := by rw [Gr.table_get hin]; have := Gr.succs_len arcs (i : Nat); omega
    have hre := RowS.ints hri (by simp only [maxSl]; omega) (fun x hx => by rw [Gr.table_get hin] at hx; have := hok _ (Gr.mem_succs.1 hx); simp only at this; unfold I64; omega)
    refine ⟨[vs.getD i undef], ⟨_, rfl, by simpa [gDD, hi] using hre⟩, fun j u hj => ?_⟩
    match j, hj with
    | 0, hj =>
      obtain rfl : vs.getD i undef = u := by simpa using hj
      obtain ⟨_, hs⟩ := hro
      rcases hs with ⟨h0, _⟩ | ⟨g, cap, cur, h0, h2, h3, h4, h5, h6⟩
      · cases h0
      · obtain ⟨rfl, rfl⟩ : b1 = g ∧ n = cap := by simpa using h0
        refine ⟨cur, 29, (0, 0), ?_⟩
        rw [show i * Rep.sz (List Int) + 0 = i from Nat.mul_one i, at_mk]
        refine ⟨h2, rfl, ?_⟩
        have hv : (cur.toList.take (n * 1))[i]? = some (vs.getD i undef) := by rw [h6]; exact getD_some hiv
        simp only [List.getElem?_take] at hv
        split at hv
        · rw [← hv, Array.getElem?_toList]
        · cases hv

theorem vis_c {X : Type} (S : X → Cls) (R : Nat → X → Prop) (l : List Int) {Φ : Hp} {nv : Value} {b fid : Nat} {capt : Array Value} {v : Int} {xss : List (List Int)} (hΦ : ∀ x w, (S x).p w → Hp.le Φ (hp w)) (hpc : PCell Φ ⟨b, 0, none⟩ nv) (hr : RepSl Φ xss nv)
    (h0 : 0 ≤ v) (hv : v.toNat < xss.length) (hl : xss.getD v.toNat [] = l) (hown : Go.K.Own pg fid)
    (hstep : ∀ k x, k < l.length → R k x → ∀ w, (S x).p w → Calls pg fid (#[.int .i64 (l.getD k 0)] ++ capt) w fun e w' => ∃ y : {x : X // R (k + 1) x}, e = .returned (.tuple #[]) ∧ (S y.1).p w')
    (x : X) (hR : R 0 x) (w : World) (hw : (S x).p w) : Calls pg 76 #[.int .i64 v, .func (.func fid) #[] capt, .pointer (some ⟨b, 0, none⟩)] w fun e w' => ∃ y : {x : X // R l.length x}, e = .returned (.tuple #[]) ∧ (S y.1).p w' := by
  refine calls_of_AW (args := [.int .i64 v, (.func (.func fid) #[] capt), .pointer (some (⟨b, 0, none⟩))]) Try.func76 rfl (lBT rfl) (S x) hw ?_
  show AW pg 20 [] _ _ _ [(0, .int .i64 v), (1, (.func (.func fid) #[] capt)), (2, .pointer (some (⟨b, 0, none⟩)))] _
  obtain ⟨sv, hsr, hsc⟩ := hr.sub hv
  rw [hl] at hsr
  have hml : l.length * 8 ≤ 140737488355328 := hsr.max
  refine AW.seq ?_
  refine AW.region ?_
  refine RW.q (v := nv) rfl (q_load rfl Try.underlying126 rfl (Cell.of hpc (hΦ _))) ?_
  refine RW.q rfl (q_move rfl) ?_
  refine RW.q (v := .pointer (some (Value.at nv (v.toNat * 1)))) rfl (q_indexAddr rfl rfl hr.sl Try.underlying126 sz29 (by omega) (by omega) rfl) ?_
  refine RW.q (v := sv) rfl (q_load rfl Try.underlying29 rfl (Cell.of hsc (hΦ _))) ?_
  refine RW.q (v := .int .i64 ((l.length : Nat) : Int)) rfl (q_len_sl rfl hsr.sl Try.underlying29) ?_
  refine RW.q rfl (q_move rfl) ?_
  refine RW.nil ?_
  refine Post.then_n ?_
  refine AW.block ?_
  refine AW.loop (fun s J m => ∃ (k : Nat), ∃ (x : X), s = [(1, (.func (.func fid) #[] capt)), (10, sv), (11, .int .i64 ((l.length : Nat) : Int)), (12, .int .i64 (k : Int))] ∧ J = S x ∧ m = l.length - k ∧ (k ≤ l.length) ∧ (R k x)) (s0 := _) (J1 := _) (m0 := _) ⟨0, x, rfl, rfl, rfl, (by omega), hR⟩ ⟨rfl, rfl, rfl, rfl, trivial⟩ (fun _ h => h) ?_
  rintro _ _ _ _ ⟨k, x, rfl, rfl, rfl, hk, hR⟩
  refine AW.seq ?_
  refine AW.region ?_
  refine RW.q (v := .bool (decide ((k : Int) < ((l.length : Nat) : Int)))) rfl (q_lss rfl rfl) ?_
  refine RW.nil ?_
  refine Post.then_n ?_
  refine AW.seq ?_
  refine AW.cond (b := decide ((k : Int) < ((l.length : Nat) : Int))) rfl (fun hc1 => ?_) (fun hc1 => ?_)
  · simp [-List.getD_eq_getElem?_getD] at hc1
    refine AW.skip ?_
    refine Post.then_n ?_
    refine AW.seq ?_
    refine AW.block ?_
    refine AW.seq ?_
    refine AW.region ?_
    refine RW.q (v := .pointer (some (Value.at sv (k * 1)))) rfl (q_indexAddr rfl rfl hsr.sl Try.underlying29 sz3 (by omega) (by omega) rfl) ?_
    refine RW.q (v := .int .i64 (l.getD k 0)) rfl (q_load rfl Try.underlying3 rfl (Cell.repIntJ (hΦ _) hsr (by omega))) ?_
    refine RW.q (v := .int .i64 (l.getD k 0)) rfl (q_assign rfl) ?_
    refine RW.nil ?_
    refine Post.then_n ?_
    refine AW.region ?_
    refine RW.q rfl (q_move rfl) ?_
    refine RW.q rfl (q_move rfl) ?_
    refine RW.eff (fun x : {x : X // R (k + 1) x} => .tuple #[]) (fun x => S x.1) rfl (e_call (V := fun _ : {x : X // R (k + 1) x} => .tuple #[]) (J' := fun y => S y.1) hown rfl (by rw [Array.toList_append]; rfl) (hstep k x hc1 hR)) ?_
    rintro ⟨x1, hR1⟩
    refine RW.nil ?_
    refine Post.blk_n (Post.then_n ?_)
    refine AW.region ?_
    refine RW.q (v := .int .i64 ((k + 1 : Nat) : Int)) rfl (q_add rfl rfl (by omega) (by unfold I64; omega)) ?_
    refine RW.q rfl (q_move rfl) ?_
    refine RW.nil ?_
    exact Post.back (s' := _) (J' := _) (m' := _) (by omega) ⟨k + 1, x1, rfl, rfl, rfl, (by omega), hR1⟩ ⟨rfl, rfl, rfl, rfl, trivial⟩ (fun _ h => h)
  · simp [-List.getD_eq_getElem?_getD] at hc1
    refine AW.exit ?_
    refine Post.then_x (Post.then_x (Post.blk_hit ?_))
    refine fin_none (J' := S x) rfl rfl (fun _ h => h) (fun w' hw' => ⟨⟨x, ?_⟩, rfl, hw'⟩)
    rwa [show k = l.length by omega] at hR

theorem visit_t {u w : Int} {d q : List Int} (h : d.getD w.toNat 0 < 0) : Gr.visit u (d, q) w = (d.set w.toNat (d.getD u.toNat 0 + 1), q ++ [w]) := by unfold Gr.visit; rw [if_pos h]
theorem visit_f {u w : Int} {d q : List Int} (h : 0 ≤ d.getD w.toNat 0) : Gr.visit u (d, q) w = (d, q) := by unfold Gr.visit; rw [if_neg (by simp only; omega)]
abbrev CS (b5 b4 b2 n : Nat) (u : Int) (dv : Value) (x : Gr.St) (qv : Value) : List Chunk := [.blk b5 3 [.int .i64 u], .blk b4 29 [qv], .row qv 3 1 x.2.length (x.2.map (Value.int .i64)), .blk b2 29 [dv], .row dv 3 1 n (x.1.map (Value.int .i64))]

theorem fill_eq {n : Nat} {L : List Int} (hl : L.length = n) (h : ∀ j, j < n → L.getD j 0 = -1) : L = List.replicate n (-1) := by
  apply List.ext_getElem (by simp [hl])
  intro i h1 h2
  have := h i (by omega)
  simpa [gDD, h1] using this
theorem fill_set {L : List Int} {k : Nat} (hk : k < L.length) (h : ∀ j, j < k → L.getD j 0 = -1) : ∀ j, j < k + 1 → (L.set k (-1)).getD j 0 = -1 := fun j hj => by
  by_cases hjk : j = k
  · subst hjk; simp [hk]
  · have := h j (by omega)
    simp only [gDD] at this ⊢
    rw [List.getElem?_set_ne (by omega)]; exact this
theorem step_facts {n : Nat} {arcs : List Gr.Arc} {v u : Int} {i k : Nat} {d q : List Int} (hok : Gr.Ok n arcs) (hI : Gr.InvI n arcs v i (Gr.bfs n arcs v i)) (hu : (Gr.bfs n arcs v i).2[i]? = some u) (hk : k < (Gr.succs arcs u).length)
    (hx : (d, q) = ((Gr.succs arcs u).take k).foldl (Gr.visit u) (Gr.bfs n arcs v i)) (hn : n ≤ 256 := by omega) :
    d.length = n ∧ (0 ≤ (Gr.succs arcs u).getD k 0 ∧ (Gr.succs arcs u).getD k 0 < n) ∧ q.length ≤ 256 ∧ (-1 ≤ d.getD u.toNat 0 ∧ d.getD u.toNat 0 ≤ 256) ∧
      ((Gr.succs arcs u).take (k + 1)).foldl (Gr.visit u) (Gr.bfs n arcs v i) = Gr.visit u (((Gr.succs arcs u).take k).foldl (Gr.visit u) (Gr.bfs n arcs v i)) ((Gr.succs arcs u).getD k 0) := by
  have hum := List.mem_of_getElem? hu
  have hmem : ∀ w ∈ Gr.succs arcs u, (0 ≤ w ∧ w < (n : Int)) ∧ (⟨u, w⟩ : Gr.Arc) ∈ arcs := fun w hw => ⟨(hok _ (Gr.mem_succs.1 hw)).2, Gr.mem_succs.1 hw⟩
  obtain ⟨k1, k2, _, k4⟩ := Gr.fold_inv ((Gr.succs arcs u).take k) (Gr.bfs n arcs v i) hI.toInv0 (hI.front u hu) hum (fun w hw => hmem w (List.mem_of_mem_take hw))
  rw [← hx] at k1 k2 k4
  have hl : q.length ≤ n := Gr.int_nodup_le k1.nodup fun w hw => ⟨(k1.q w hw).1, (k1.q w hw).2.1⟩
  have huq : u ∈ q := by obtain ⟨⟨t, ht⟩, _⟩ := k4; simp only at ht; rw [ht]; simp [hum]
  have h1 := (k1.q u huq).2.2.1
  have h2 := k1.small u huq
  have hD : Gr.D (d, q) u = d.getD u.toNat 0 := rfl
  simp only at h2
  refine ⟨k1.len, (hmem _ ?_).1, by omega, by omega, ?_⟩
  · have := getD_some (d := 0) hk
    exact List.mem_of_getElem? this
  · rw [List.take_succ_eq_append_getElem hk, List.foldl_append]
    simp [hk]
theorem step_len {n : Nat} {arcs : List Gr.Arc} {v u : Int} {i : Nat} (hok : Gr.Ok n arcs) (hI : Gr.InvI n arcs v i (Gr.bfs n arcs v i)) (hu : (Gr.bfs n arcs v i).2[i]? = some u) :
    (Gr.bfs n arcs v i).2.length ≤ ((Gr.succs arcs u).foldl (Gr.visit u) (Gr.bfs n arcs v i)).2.length := by
  obtain ⟨_, _, _, ⟨t, ht⟩, _⟩ := Gr.fold_inv (Gr.succs arcs u) (Gr.bfs n arcs v i) hI.toInv0 (hI.front u hu) (List.mem_of_getElem? hu) (fun w hw => ⟨(hok _ (Gr.mem_succs.1 hw)).2, Gr.mem_succs.1 hw⟩)
  rw [ht]; simp
theorem dvisit_c {B : Bs} {Φ : Hp} {b5 b4 b2 n : Nat} {u x : Int} {d q : List Int} {dv qv : Value} (hdv : IsSl dv n) (hqv : IsSl qv q.length) (hd : d.length = n) (hx : 0 ≤ x ∧ x < n) (hu : 0 ≤ u ∧ u < n) (hq : q.length ≤ 256) (hD : -1 ≤ d.getD u.toNat 0 ∧ d.getD u.toNat 0 ≤ 256)
    (w : World) (hW : (St B Φ (CS b5 b4 b2 n u dv (d, q) qv)).p w) : Calls pg 75 #[.int .i64 x, .pointer (some ⟨b2, 0, none⟩), .pointer (some ⟨b5, 0, none⟩), .pointer (some ⟨b4, 0, none⟩)] w fun e w' =>
      ∃ y : {qv' : Value // IsSl qv' (Gr.visit u (d, q) x).2.length}, e = .returned (.tuple #[]) ∧ (St B Φ (CS b5 b4 b2 n u dv (Gr.visit u (d, q) x) y.1)).p w' := by
  refine calls_of_AW (args := [.int .i64 x, .pointer (some (⟨b2, 0, none⟩)), .pointer (some (⟨b5, 0, none⟩)), .pointer (some (⟨b4, 0, none⟩))]) Try.func75 rfl (lBT rfl) (St B Φ [.blk b5 3 [.int .i64 u], .blk b4 29 [qv], .row qv 3 1 q.length (q.map (Value.int .i64)), .blk b2 29 [dv], .row dv 3 1 n (d.map (Value.int .i64))]) hW ?_
  show AW pg 22 [] _ _ _ [(0, .int .i64 x), (1, .pointer (some (⟨b2, 0, none⟩))), (2, .pointer (some (⟨b5, 0, none⟩))), (3, .pointer (some (⟨b4, 0, none⟩)))] _
  refine AW.seq ?_
  refine AW.region ?_
  refine RW.q (v := dv) rfl (q_load rfl Try.underlying29 rfl (Cell.blk 3 rfl rfl)) ?_
  refine RW.q rfl (q_move rfl) ?_
  refine RW.q (v := .pointer (some (Value.at dv (x.toNat * 1)))) rfl (q_indexAddr rfl rfl hdv Try.underlying29 sz3 (by omega) (by omega) rfl) ?_
  refine RW.q (v := .int .i64 ((d).getD x.toNat 0)) rfl (q_load rfl Try.underlying3 rfl (Cell.rowInt 4 rfl (by omega))) ?_
  refine RW.q (v := .bool (decide ((d).getD x.toNat 0 < 0))) rfl (q_lss rfl rfl) ?_
  refine RW.nil ?_
  refine Post.then_n ?_
  refine AW.cond (b := decide ((d).getD x.toNat 0 < 0)) rfl (fun hc1 => ?_) (fun hc1 => ?_)
  · simp [-List.getD_eq_getElem?_getD] at hc1
    refine AW.seq ?_
    refine AW.draw (J0 := St B Φ [.blk b5 3 [.int .i64 u], .blk b4 29 [qv], .row qv 3 1 q.length (q.map (Value.int .i64)), .blk b2 29 [dv], .row dv 3 1 n (d.map (Value.int .i64))]) [.q, .q, .q, .q, .q, .q, .q, .q, .e] [0, 1, 2, 3, 4, 5, 6, 7, 8] hmix (by kernel_rfl) ?_
    refine DW.q (v := dv) (fun _ h => h) rfl (q_load rfl Try.underlying29 rfl (Cell.blk 3 rfl rfl)) ?_
    refine DW.q (fun _ h => h) rfl (q_move rfl) ?_
    refine DW.q (v := dv) (fun _ h => h) rfl (q_load rfl Try.underlying29 rfl (Cell.blk 3 rfl rfl)) ?_
    refine DW.q (v := .int .i64 u) (fun _ h => h) rfl (q_load rfl Try.underlying3 rfl (Cell.blk 0 rfl rfl)) ?_
    refine DW.q (v := .pointer (some (Value.at dv (u.toNat * 1)))) (fun _ h => h) rfl (q_indexAddr rfl rfl hdv Try.underlying29 sz3 (by omega) (by omega) rfl) ?_
    refine DW.q (v := .int .i64 ((d).getD u.toNat 0)) (fun _ h => h) rfl (q_load rfl Try.underlying3 rfl (Cell.rowInt 4 rfl (by omega))) ?_
    refine DW.q (v := .int .i64 (((d).getD u.toNat 0) + 1)) (fun _ h => h) rfl (q_add rfl rfl (by omega) (by unfold I64; omega)) ?_
    refine DW.q (v := .pointer (some (Value.at dv (x.toNat * 1)))) (fun _ h => h) rfl (q_indexAddr rfl rfl hdv Try.underlying29 sz3 (by omega) (by omega) rfl) ?_
    refine DW.effn (J' := St B Φ [.blk b5 3 [.int .i64 u], .blk b4 29 [qv], .row qv 3 1 q.length (q.map (Value.int .i64)), .blk b2 29 [dv], .row dv 3 1 n ((d.set x.toNat (((d).getD u.toNat 0) + 1)).map (Value.int .i64))]) (fun h => absurd rfl h) (e_storeRow (v := .int .i64 (((d).getD u.toNat 0) + 1)) 4 rfl rfl rfl sz3 rfl rfl (by simp [-List.getD_eq_getElem?_getD]; omega) (splice_int (by omega)) rfl) ?_
    refine DW.nil ?_
    refine Post.then_n ?_
    refine AW.region ?_
    refine RW.q (v := qv) rfl (q_load rfl Try.underlying29 rfl (Cell.blk 1 rfl rfl)) ?_
    refine RW.q rfl (q_move rfl) ?_
    refine RW.eff (fun b1 : Nat => (.slice (some ⟨b1, 0, none⟩) 1 1)) (fun b1 => St B Φ [.row (.slice (some ⟨b1, 0, none⟩) 1 1) 3 1 1 ([.int .i64 x]), .blk b5 3 [.int .i64 u], .blk b4 29 [qv], .row qv 3 1 q.length (q.map (Value.int .i64)), .blk b2 29 [dv], .row dv 3 1 n ((d.set x.toNat (((d).getD u.toNat 0) + 1)).map (Value.int .i64))]) rfl (e_buildSlice (vals := [(0, .int .i64 x)]) (cells := [.int .i64 x]) Try.underlying29 inf3 rfl rfl rfl (by kernel_rfl) rfl) ?_
    intro b1
    refine RW.eff (fun xv : {vq : Value // IsSl vq (q.length + 1)} => xv.1) (fun xv => St B Φ [.row (.slice (some ⟨b1, 0, none⟩) 1 1) 3 1 1 ([.int .i64 x]), .blk b5 3 [.int .i64 u], .blk b4 29 [qv], .row xv.1 3 1 ((q ++ [x]).length) ((q ++ [x]).map (Value.int .i64)), .blk b2 29 [dv], .row dv 3 1 n ((d.set x.toNat (((d).getD u.toNat 0) + 1)).map (Value.int .i64))]) rfl (e_append 3 rfl rfl rfl Try.underlying29 inf3 rfl rfl rfl (Cells.row0 0 rfl) rfl (by omega) (by omega) (fun _ => by simp)) ?_
    rintro ⟨va1, hva1⟩
    refine RW.wk (J' := St B Φ [.blk b5 3 [.int .i64 u], .blk b4 29 [qv], .row va1 3 1 ((q ++ [x]).length) ((q ++ [x]).map (Value.int .i64)), .blk b2 29 [dv], .row dv 3 1 n ((d.set x.toNat (((d).getD u.toNat 0) + 1)).map (Value.int .i64))]) (fun _ h => StP.drop h (by exact .cons _ (.cons_cons _ (.cons_cons _ (.cons_cons _ (.cons_cons _ (.cons_cons _ (.slnil)))))))) ?_
    refine RW.effn (J' := St B Φ [.blk b5 3 [.int .i64 u], .blk b4 29 [va1], .row va1 3 1 ((q ++ [x]).length) ((q ++ [x]).map (Value.int .i64)), .blk b2 29 [dv], .row dv 3 1 n ((d.set x.toNat (((d).getD u.toNat 0) + 1)).map (Value.int .i64))]) (e_storeSl (v := va1) 1 rfl rfl rfl hva1 sz29 rfl rfl rfl) ?_
    refine RW.nil ?_
    refine fin_none (J' := St B Φ [.blk b5 3 [.int .i64 u], .blk b4 29 [va1], .row va1 3 1 ((q ++ [x]).length) ((q ++ [x]).map (Value.int .i64)), .blk b2 29 [dv], .row dv 3 1 n ((d.set x.toNat (((d).getD u.toNat 0) + 1)).map (Value.int .i64))]) rfl rfl (fun _ h => h) (fun w' hw' => ?_)
    refine ⟨⟨va1, by rw [visit_t hc1]; simpa using hva1⟩, rfl, ?_⟩
    show (St B Φ (CS b5 b4 b2 n u dv (Gr.visit u (d, q) x) va1)).p w'
    rw [visit_t hc1]; simpa [CS] using hw'
  · simp [-List.getD_eq_getElem?_getD] at hc1
    refine AW.skip ?_
    refine fin_none (J' := St B Φ [.blk b5 3 [.int .i64 u], .blk b4 29 [qv], .row qv 3 1 q.length (q.map (Value.int .i64)), .blk b2 29 [dv], .row dv 3 1 n (d.map (Value.int .i64))]) rfl rfl (fun _ h => h) (fun w' hw' => ?_)
    refine ⟨⟨qv, by rw [visit_f hc1]; exact hqv⟩, rfl, ?_⟩
    show (St B Φ (CS b5 b4 b2 n u dv (Gr.visit u (d, q) x) qv)).p w'
    rw [visit_f hc1]; exact hw'

theorem distances_c (w : World) (Φ : Hp) (hΦ : Hp.le Φ (hp w)) {n : Nat} {arcs : List Gr.Arc} {fv : Value} {v : Int} (hvis : IsVis Φ n arcs fv) (hn : n ≤ 256) (hok : Gr.Ok n arcs) (hv : 0 ≤ v ∧ v < n) :
    Calls pg 67 #[.int .i64 (n : Int), fv, .int .i64 v] w (RetS noHp w fun r Ψ => RepSl Ψ (Gr.distL n arcs v) r) := by
  obtain ⟨bv, nv, rfl, hpc, hr⟩ := hvis
  refine calls_of_AW (args := [.int .i64 (n : Int), .func (.func 76) #[] #[.pointer (some (⟨bv, 0, none⟩))], .int .i64 v]) Try.func67 rfl (lBT rfl) (St ⟨w, Φ, []⟩ Φ []) (StP.init w Φ hΦ []) ?_
  show AW pg 43 [] _ _ _ [(0, .int .i64 (n : Int)), (1, .func (.func 76) #[] #[.pointer (some (⟨bv, 0, none⟩))]), (2, .int .i64 v)] _
  refine AW.seq ?_
  refine AW.region ?_
  refine RW.q (v := (.slice none 0 0)) rfl (q_assign rfl) ?_
  refine RW.nil ?_
  refine Post.then_n ?_
  refine AW.seq ?_
  refine AW.region ?_
  refine RW.q rfl (q_move rfl) ?_
  refine RW.eff (fun b1 : Nat => (.slice (some ⟨b1, 0, none⟩) n n)) (fun b1 => St ⟨w, Φ, []⟩ Φ [.row (.slice (some ⟨b1, 0, none⟩) n n) 3 1 n ((List.replicate n 0).map (Value.int .i64))]) rfl (e_makeSlice rfl rfl Try.underlying29 inf3 (by omega) (by omega) (by omega) rfl (made_int (n := n) (by omega))) ?_
  intro b1
  refine RW.eff (fun b2 : Nat => .pointer (some (⟨b2, 0, none⟩))) (fun b2 => St ⟨w, Φ, []⟩ Φ [.blk b2 29 [(.slice none 0 0)], .row (.slice (some ⟨b1, 0, none⟩) n n) 3 1 n ((List.replicate n 0).map (Value.int .i64))]) rfl (e_alloc zero29) ?_
  intro b2
  refine RW.effn (J' := St ⟨w, Φ, []⟩ Φ [.blk b2 29 [(.slice (some ⟨b1, 0, none⟩) n n)], .row (.slice (some ⟨b1, 0, none⟩) n n) 3 1 n ((List.replicate n 0).map (Value.int .i64))]) (e_store (v := (.slice (some ⟨b1, 0, none⟩) n n)) 0 rfl rfl rfl sz29 rfl rfl rfl rfl rfl) ?_
  refine RW.nil ?_
  refine Post.then_n ?_
  refine AW.seq ?_
  refine AW.seq ?_
  refine AW.region ?_
  refine RW.q (v := (.slice (some ⟨b1, 0, none⟩) n n)) rfl (q_load rfl Try.underlying29 rfl (Cell.blk 0 rfl rfl)) ?_
  refine RW.q (v := .int .i64 (n : Int)) rfl (q_len_sl rfl isSl_mk Try.underlying29) ?_
  refine RW.q rfl (q_move rfl) ?_
  refine RW.nil ?_
  refine Post.then_n ?_
  refine AW.block ?_
  refine AW.loop (fun s J m => ∃ (k : Nat), ∃ (L : List Int), s = [(0, .int .i64 (n : Int)), (1, .func (.func 76) #[] #[.pointer (some (⟨bv, 0, none⟩))]), (2, .int .i64 v), (7, .pointer (some (⟨b2, 0, none⟩))), (15, .int .i64 (n : Int)), (16, .int .i64 (k : Int))] ∧ J = St ⟨w, Φ, []⟩ Φ [.blk b2 29 [(.slice (some ⟨b1, 0, none⟩) n n)], .row (.slice (some ⟨b1, 0, none⟩) n n) 3 1 n (L.map (Value.int .i64))] ∧ m = n - k ∧ (k ≤ n) ∧ (L.length = n) ∧ (∀ j, j < k → L.getD j 0 = -1)) (s0 := _) (J1 := _) (m0 := _) ⟨0, _, rfl, rfl, rfl, (by omega), (by simp), (by omega)⟩ ⟨rfl, rfl, rfl, rfl, rfl, rfl, trivial⟩ (fun _ h => h) ?_
  rintro _ _ _ _ ⟨k, L, rfl, rfl, rfl, hk, hL, heq⟩
  refine AW.seq ?_
  refine AW.region ?_
  refine RW.q (v := .bool (decide ((k : Int) < (n : Int)))) rfl (q_lss rfl rfl) ?_
  refine RW.nil ?_
  refine Post.then_n ?_
  refine AW.seq ?_
  refine AW.cond (b := decide ((k : Int) < (n : Int))) rfl (fun hc1 => ?_) (fun hc1 => ?_)
  · simp [-List.getD_eq_getElem?_getD] at hc1
    refine AW.skip ?_
    refine Post.then_n ?_
    refine AW.seq ?_
    refine AW.block ?_
    refine AW.seq ?_
    refine AW.region ?_
    refine RW.q rfl (q_move rfl) ?_
    refine RW.q (v := .int .i64 (k : Int)) rfl (q_assign rfl) ?_
    refine RW.nil ?_
    refine Post.then_n ?_
    refine AW.region ?_
    refine RW.q (v := (.slice (some ⟨b1, 0, none⟩) n n)) rfl (q_load rfl Try.underlying29 rfl (Cell.blk 0 rfl rfl)) ?_
    refine RW.q rfl (q_move rfl) ?_
    refine RW.q (v := .pointer (some (Value.at (.slice (some ⟨b1, 0, none⟩) n n) (k * 1)))) rfl (q_indexAddr rfl rfl isSl_mk Try.underlying29 sz3 (by omega) (by omega) rfl) ?_
    refine RW.effn (J' := St ⟨w, Φ, []⟩ Φ [.blk b2 29 [(.slice (some ⟨b1, 0, none⟩) n n)], .row (.slice (some ⟨b1, 0, none⟩) n n) 3 1 n ((L.set k (-1)).map (Value.int .i64))]) (e_storeRow (v := .int .i64 (-1)) 1 rfl rfl rfl sz3 rfl rfl (by simp [-List.getD_eq_getElem?_getD]; omega) (splice_int (by omega)) rfl) ?_
    refine RW.nil ?_
    refine Post.blk_n (Post.then_n ?_)
    refine AW.region ?_
    refine RW.q (v := .int .i64 ((k + 1 : Nat) : Int)) rfl (q_add rfl rfl (by omega) (by unfold I64; omega)) ?_
    refine RW.q rfl (q_move rfl) ?_
    refine RW.nil ?_
    exact Post.back (s' := _) (J' := _) (m' := _) (by omega) ⟨k + 1, _, rfl, rfl, rfl, (by omega), (by simp [hL]), (fill_set (by omega) heq)⟩ ⟨rfl, rfl, rfl, rfl, rfl, rfl, trivial⟩ (fun _ h => h)
  · simp [-List.getD_eq_getElem?_getD] at hc1
    refine AW.exit ?_
    refine Post.then_x (Post.then_x (Post.blk_hit (Post.then_n ?_)))
    refine AW.seq ?_
    obtain rfl : L = List.replicate n (-1) := fill_eq hL (fun j hj => heq j (by omega))
    refine AW.region ?_
    refine RW.q (v := (.slice (some ⟨b1, 0, none⟩) n n)) rfl (q_load rfl Try.underlying29 rfl (Cell.blk 0 rfl rfl)) ?_
    refine RW.q rfl (q_move rfl) ?_
    refine RW.q (v := .pointer (some (Value.at (.slice (some ⟨b1, 0, none⟩) n n) (v.toNat * 1)))) rfl (q_indexAddr rfl rfl isSl_mk Try.underlying29 sz3 (by omega) (by omega) rfl) ?_
    refine RW.effn (J' := St ⟨w, Φ, []⟩ Φ [.blk b2 29 [(.slice (some ⟨b1, 0, none⟩) n n)], .row (.slice (some ⟨b1, 0, none⟩) n n) 3 1 n (((List.replicate n (-1)).set v.toNat 0).map (Value.int .i64))]) (e_storeRow (v := .int .i64 0) 1 rfl rfl rfl sz3 rfl rfl (by simp [-List.getD_eq_getElem?_getD]; omega) (splice_int (by omega)) rfl) ?_
    refine RW.nil ?_
    refine Post.then_n ?_
    refine AW.seq ?_
    refine AW.region ?_
    refine RW.q rfl (q_move rfl) ?_
    refine RW.eff (fun b3 : Nat => (.slice (some ⟨b3, 0, none⟩) 1 1)) (fun b3 => St ⟨w, Φ, []⟩ Φ [.row (.slice (some ⟨b3, 0, none⟩) 1 1) 3 1 1 ([.int .i64 v]), .blk b2 29 [(.slice (some ⟨b1, 0, none⟩) n n)], .row (.slice (some ⟨b1, 0, none⟩) n n) 3 1 n (((List.replicate n (-1)).set v.toNat 0).map (Value.int .i64))]) rfl (e_buildSlice (vals := [(0, .int .i64 v)]) (cells := [.int .i64 v]) Try.underlying29 inf3 rfl rfl rfl (by kernel_rfl) rfl) ?_
    intro b3
    refine RW.eff (fun b4 : Nat => .pointer (some (⟨b4, 0, none⟩))) (fun b4 => St ⟨w, Φ, []⟩ Φ [.blk b4 29 [(.slice none 0 0)], .row (.slice (some ⟨b3, 0, none⟩) 1 1) 3 1 1 ([.int .i64 v]), .blk b2 29 [(.slice (some ⟨b1, 0, none⟩) n n)], .row (.slice (some ⟨b1, 0, none⟩) n n) 3 1 n (((List.replicate n (-1)).set v.toNat 0).map (Value.int .i64))]) rfl (e_alloc zero29) ?_
    intro b4
    refine RW.effn (J' := St ⟨w, Φ, []⟩ Φ [.blk b4 29 [(.slice (some ⟨b3, 0, none⟩) 1 1)], .row (.slice (some ⟨b3, 0, none⟩) 1 1) 3 1 1 ([.int .i64 v]), .blk b2 29 [(.slice (some ⟨b1, 0, none⟩) n n)], .row (.slice (some ⟨b1, 0, none⟩) n n) 3 1 n (((List.replicate n (-1)).set v.toNat 0).map (Value.int .i64))]) (e_store (v := (.slice (some ⟨b3, 0, none⟩) 1 1)) 0 rfl rfl rfl sz29 rfl rfl rfl rfl rfl) ?_
    refine RW.nil ?_
    refine Post.then_n ?_
    refine AW.seq ?_
    refine AW.seq ?_
    refine AW.region ?_
    refine RW.q (v := .int .i64 0) rfl (q_assign rfl) ?_
    refine RW.nil ?_
    refine Post.then_n ?_
    refine AW.block ?_
    refine AW.loop (fun s J m => ∃ (i : Nat), ∃ (qv : Value), s = [(1, .func (.func 76) #[] #[.pointer (some (⟨bv, 0, none⟩))]), (7, .pointer (some (⟨b2, 0, none⟩))), (9, .pointer (some (⟨b4, 0, none⟩))), (10, .int .i64 (i : Int))] ∧ J = St ⟨w, Φ, []⟩ Φ [.blk b4 29 [qv], .row qv 3 1 ((Gr.bfs n arcs v i).2.length) (((Gr.bfs n arcs v i).2).map (Value.int .i64)), .blk b2 29 [(.slice (some ⟨b1, 0, none⟩) n n)], .row (.slice (some ⟨b1, 0, none⟩) n n) 3 1 n (((Gr.bfs n arcs v i).1).map (Value.int .i64))] ∧ m = n - i ∧ (∀ j, j < i → j < (Gr.bfs n arcs v j).2.length) ∧ (i ≤ (Gr.bfs n arcs v i).2.length) ∧ (IsSl qv (Gr.bfs n arcs v i).2.length)) (s0 := _) (J1 := _) (m0 := _) ⟨0, _, rfl, rfl, rfl, (by omega), (by omega), isSl_mk⟩ ⟨rfl, rfl, rfl, rfl, trivial⟩ (fun _ h => h) ?_
    rintro _ _ _ _ ⟨i, qv, rfl, rfl, rfl, hJ, hle, hqv⟩
    have hI := Gr.bfs_inv hok hv i hJ
    have hln := Gr.bfs_len hI
    refine AW.seq ?_
    refine AW.seq ?_
    refine AW.region ?_
    refine RW.q rfl (q_move rfl) ?_
    refine RW.q (v := qv) rfl (q_load rfl Try.underlying29 rfl (Cell.blk 0 rfl rfl)) ?_
    refine RW.q (v := .int .i64 (((Gr.bfs n arcs v i).2.length : Nat) : Int)) rfl (q_len_sl rfl hqv Try.underlying29) ?_
    refine RW.q (v := .bool (decide ((i : Int) < (((Gr.bfs n arcs v i).2.length : Nat) : Int)))) rfl (q_lss rfl rfl) ?_
    refine RW.nil ?_
    refine Post.then_n ?_
    refine AW.cond (b := decide ((i : Int) < (((Gr.bfs n arcs v i).2.length : Nat) : Int))) rfl (fun hc2 => ?_) (fun hc2 => ?_)
    · simp [-List.getD_eq_getElem?_getD] at hc2
      refine AW.skip ?_
      refine Post.then_n ?_
      refine AW.seq ?_
      refine AW.block ?_
      refine AW.seq ?_
      refine AW.region ?_
      refine RW.q (v := qv) rfl (q_load rfl Try.underlying29 rfl (Cell.blk 0 rfl rfl)) ?_
      refine RW.q rfl (q_move rfl) ?_
      refine RW.q (v := .pointer (some (Value.at qv (i * 1)))) rfl (q_indexAddr rfl rfl hqv Try.underlying29 sz3 (by omega) (by omega) rfl) ?_
      refine RW.q (v := .int .i64 (((Gr.bfs n arcs v i).2).getD i 0)) rfl (q_load rfl Try.underlying3 rfl (Cell.rowInt 1 rfl (by omega))) ?_
      refine RW.eff (fun b5 : Nat => .pointer (some (⟨b5, 0, none⟩))) (fun b5 => St ⟨w, Φ, []⟩ Φ [.blk b5 3 [.int .i64 0], .blk b4 29 [qv], .row qv 3 1 ((Gr.bfs n arcs v i).2.length) (((Gr.bfs n arcs v i).2).map (Value.int .i64)), .blk b2 29 [(.slice (some ⟨b1, 0, none⟩) n n)], .row (.slice (some ⟨b1, 0, none⟩) n n) 3 1 n (((Gr.bfs n arcs v i).1).map (Value.int .i64))]) rfl (e_alloc zero3) ?_
      intro b5
      refine RW.effn (J' := St ⟨w, Φ, []⟩ Φ [.blk b5 3 [.int .i64 (((Gr.bfs n arcs v i).2).getD i 0)], .blk b4 29 [qv], .row qv 3 1 ((Gr.bfs n arcs v i).2.length) (((Gr.bfs n arcs v i).2).map (Value.int .i64)), .blk b2 29 [(.slice (some ⟨b1, 0, none⟩) n n)], .row (.slice (some ⟨b1, 0, none⟩) n n) 3 1 n (((Gr.bfs n arcs v i).1).map (Value.int .i64))]) (e_store (v := .int .i64 (((Gr.bfs n arcs v i).2).getD i 0)) 0 rfl rfl rfl sz3 rfl rfl rfl rfl rfl) ?_
      refine RW.nil ?_
      refine Post.then_n ?_
      obtain ⟨u, hud⟩ : ∃ u, u = (Gr.bfs n arcs v i).2.getD i 0 := ⟨_, rfl⟩
      have hu1 : (Gr.bfs n arcs v i).2[i]? = some u := by rw [hud]; exact getD_some (by omega)
      have hu := hI.q u (List.mem_of_getElem? hu1)
      rw [← hud]
      refine AW.region ?_
      refine RW.q rfl (q_move rfl) ?_
      refine RW.q (v := .int .i64 u) rfl (q_load rfl Try.underlying3 rfl (Cell.blk 0 rfl rfl)) ?_
      refine RW.q (v := .func (.func 75) #[] #[.pointer (some (⟨b2, 0, none⟩)), .pointer (some (⟨b5, 0, none⟩)), .pointer (some (⟨b4, 0, none⟩))]) rfl (q_makeFunc rfl rfl) ?_
      have hsl := Gr.succs_len arcs u
      have hstp : ∀ k (x : Gr.St × Value), k < (Gr.succs arcs u).length → (fun k (x : Gr.St × Value) => x.1 = ((Gr.succs arcs u).take k).foldl (Gr.visit u) (Gr.bfs n arcs v i) ∧ IsSl x.2 x.1.2.length) k x → ∀ w2, ((fun x : Gr.St × Value => St ⟨w, Φ, []⟩ Φ (CS b5 b4 b2 n u (.slice (some ⟨b1, 0, none⟩) n n) x.1 x.2)) x).p w2 → Calls pg 75 (#[.int .i64 ((Gr.succs arcs u).getD k 0)] ++ #[.pointer (some ⟨b2, 0, none⟩), .pointer (some ⟨b5, 0, none⟩), .pointer (some ⟨b4, 0, none⟩)]) w2 fun e w' => ∃ y : {x : Gr.St × Value // (fun k (x : Gr.St × Value) => x.1 = ((Gr.succs arcs u).take k).foldl (Gr.visit u) (Gr.bfs n arcs v i) ∧ IsSl x.2 x.1.2.length) (k + 1) x}, e = .returned (.tuple #[]) ∧ ((fun x : Gr.St × Value => St ⟨w, Φ, []⟩ Φ (CS b5 b4 b2 n u (.slice (some ⟨b1, 0, none⟩) n n) x.1 x.2)) y.1).p w' := by
        rintro k ⟨⟨d, q⟩, qv1⟩ hk ⟨hx, hqv1⟩ w2 hw2
        obtain ⟨k1, k2, k3, k4, k5⟩ := step_facts hok hI hu1 hk hx
        refine (dvisit_c isSl_mk hqv1 k1 k2 (by omega) k3 k4 w2 hw2).mono fun e w' ⟨y, he, hy⟩ => ⟨⟨(Gr.visit u (d, q) ((Gr.succs arcs u).getD k 0), y.1), ?_, y.2⟩, he, hy⟩
        rw [k5, ← hx]
      refine RW.eff (fun x : {x : Gr.St × Value // x.1 = (Gr.succs arcs u).foldl (Gr.visit u) (Gr.bfs n arcs v i) ∧ IsSl x.2 x.1.2.length} => .tuple #[]) (fun x => St ⟨w, Φ, []⟩ Φ (CS b5 b4 b2 n u (.slice (some ⟨b1, 0, none⟩) n n) x.1.1 x.1.2)) rfl (e_call (args := #[.int .i64 u, .func (.func 75) #[] #[.pointer (some (⟨b2, 0, none⟩)), .pointer (some (⟨b5, 0, none⟩)), .pointer (some (⟨b4, 0, none⟩))], .pointer (some (⟨bv, 0, none⟩))]) oK rfl rfl (fun w1 hw1 => (vis_c (fun x : Gr.St × Value => St ⟨w, Φ, []⟩ Φ (CS b5 b4 b2 n u (.slice (some ⟨b1, 0, none⟩) n n) x.1 x.2)) (fun k (x : Gr.St × Value) => x.1 = ((Gr.succs arcs u).take k).foldl (Gr.visit u) (Gr.bfs n arcs v i) ∧ IsSl x.2 x.1.2.length) (Gr.succs arcs u) (fun x w hw => hw.phi) hpc hr (by omega) (by rw [Gr.table_len]; omega) (by rw [Gr.table_get (by omega)]; congr 1; omega) oK hstp (Gr.bfs n arcs v i, qv) ⟨by simp, hqv⟩ w1 hw1).mono fun e w' ⟨y, he, hy⟩ => ⟨⟨y.1, y.2.1.trans (by rw [List.take_length]), y.2.2⟩, he, hy⟩)) ?_
      rintro ⟨⟨x1, qv1⟩, hx1, hqv1⟩
      refine RW.nil ?_
      refine Post.blk_n (Post.then_n ?_)
      refine AW.region ?_
      refine RW.q rfl (q_move rfl) ?_
      refine RW.q (v := .int .i64 ((i + 1 : Nat) : Int)) rfl (q_add rfl rfl (by omega) (by unfold I64; omega)) ?_
      refine RW.q (v := .int .i64 ((i + 1 : Nat) : Int)) rfl (q_assign rfl) ?_
      refine RW.nil ?_
      replace hx1 : x1 = (Gr.succs arcs u).foldl (Gr.visit u) (Gr.bfs n arcs v i) := hx1
      replace hqv1 : IsSl qv1 x1.2.length := hqv1
      have hbs : Gr.bfs n arcs v (i + 1) = x1 := by rw [Gr.bfs, if_pos hc2, hx1, hud]; rfl
      have hJ1 : ∀ j, j < i + 1 → j < (Gr.bfs n arcs v j).2.length := Gr.lt_succ hJ hc2
      have hI1 := Gr.bfs_inv hok hv (i + 1) hJ1
      rw [hbs] at hI1
      have hgr := step_len hok hI hu1
      rw [← hx1] at hgr
      exact Post.back (s' := _) (J' := _) (m' := _) (by omega) ⟨i + 1, qv1, rfl, rfl, rfl, hJ1, (by rw [hbs]; omega), (by rw [hbs]; exact hqv1)⟩ ⟨rfl, rfl, rfl, rfl, trivial⟩ (fun _ h => by rw [hbs]; exact StP.drop h (.cons _ (List.Sublist.refl _)))
    · simp [-List.getD_eq_getElem?_getD] at hc2
      refine AW.exit ?_
      refine Post.then_x (Post.then_x (Post.blk_hit (Post.then_n ?_)))
      refine AW.seq ?_
      refine AW.region ?_
      refine RW.q (v := (.slice (some ⟨b1, 0, none⟩) n n)) rfl (q_load rfl Try.underlying29 rfl (Cell.blk 2 rfl rfl)) ?_
      refine RW.q (v := (.slice (some ⟨b1, 0, none⟩) n n)) rfl (q_assign rfl) ?_
      refine RW.nil ?_
      refine Post.then_n ?_
      refine AW.ret ?_
      have hI := Gr.bfs_inv hok hv i hJ
      have hln := Gr.bfs_len hI
      refine fin_rep rfl rfl rfl (fun w' hw => ?_)
      have hro := row_ext (Φr := noHp) hw 3 rfl
      rw [Gr.bfs_end hI (by omega) hle] at hro
      have hd := Gr.distL_is hok hv
      refine RowS.ints hro (by simp only [maxSl]; omega) (fun x hx => ?_)
      obtain ⟨j, hj, rfl⟩ := List.mem_iff_getElem.1 hx
      have h1 := hd.2 (j : Int) (by omega) (by have := hd.1; omega)
      simp only [Int.toNat_natCast, gDD, List.getElem?_eq_getElem hj, Option.getD_some] at h1
      unfold I64; omega

theorem reached_t (w : World) (Φ : Hp) (hΦ : Hp.le Φ (hp w)) {n : Nat} {arcs : List Gr.Arc} {v1 : Value} (h1 : RepSl Φ arcs v1) (hrt : Gr.rightB n arcs = true) {v : Int} :
    Calls pg 44 #[.int .i64 (n : Int), v1, .int .i64 v] w (RetS noHp w fun r Ψ => RepSl Ψ (Gr.downM n arcs v) r) := by
  refine calls_of_AW (args := [.int .i64 (n : Int), v1, .int .i64 v]) Try.func44 rfl (lBT rfl) (St ⟨w, Φ, []⟩ Φ []) (StP.init w Φ hΦ []) ?_
  show AW pg 43 [] _ _ _ [(0, .int .i64 (n : Int)), (1, v1), (2, .int .i64 v)] _
  obtain ⟨hn, har, hok⟩ := Gr.right_ok hrt
  rw [Int.toNat_natCast] at hok
  have hn2 : n ≤ 256 := by omega
  clear hn
  have hmh1 : arcs.length * 16 ≤ 140737488355328 := h1.max
  refine AW.seq ?_
  refine AW.region ?_
  refine RW.q (v := (.slice none 0 0)) rfl (q_assign rfl) ?_
  refine RW.nil ?_
  refine Post.then_n ?_
  refine AW.seq ?_
  refine AW.seq ?_
  refine AW.region ?_
  refine RW.q rfl (q_move rfl) ?_
  refine RW.q rfl (q_move rfl) ?_
  refine RW.q (v := .bool (Gr.rightB (n : Int) arcs)) rfl (q_call (args := #[.int .i64 (n : Int), v1]) oK rfl rfl (fun w1 hw1 => Right_c w1 Φ hw1.phi h1)) ?_
  refine RW.q (v := .bool (!(Gr.rightB (n : Int) arcs))) rfl (q_not rfl) ?_
  refine RW.q rfl (q_move rfl) ?_
  refine RW.g (b := (!(Gr.rightB (n : Int) arcs))) (v := .int .i64 v) rfl rfl rfl (fun h => q_move rfl) ?_
  refine RW.g (b := (!(Gr.rightB (n : Int) arcs))) (v := .bool (decide (v < 0))) rfl rfl rfl (fun h => q_lss (gv_pos h) rfl) ?_
  refine RW.q (v := .bool ((!(Gr.rightB (n : Int) arcs)) || (decide (v < 0)))) rfl (qpO rfl rfl rfl) ?_
  refine RW.q rfl (q_move rfl) ?_
  refine RW.g (b := ((!(Gr.rightB (n : Int) arcs)) || (decide (v < 0)))) (v := .int .i64 v) rfl rfl rfl (fun h => q_move rfl) ?_
  refine RW.g (b := ((!(Gr.rightB (n : Int) arcs)) || (decide (v < 0)))) (v := .int .i64 (n : Int)) rfl rfl rfl (fun h => q_move rfl) ?_
  refine RW.g (b := ((!(Gr.rightB (n : Int) arcs)) || (decide (v < 0)))) (v := .bool (decide ((n : Int) ≤ v))) rfl rfl rfl (fun h => q_geq (gv_pos h) (gv_pos h)) ?_
  refine RW.q (v := .bool (((!(Gr.rightB (n : Int) arcs)) || (decide (v < 0))) || (decide ((n : Int) ≤ v)))) rfl (qpO rfl rfl rfl) ?_
  refine RW.nil ?_
  refine Post.then_n ?_
  refine AW.cond (b := ((!(Gr.rightB (n : Int) arcs)) || (decide (v < 0))) || (decide ((n : Int) ≤ v))) rfl (fun hc1 => ?_) (fun hc1 => ?_)
  · simp [-List.getD_eq_getElem?_getD] at hc1
    simp [hrt] at hc1
    refine AW.seq ?_
    refine AW.region ?_
    refine RW.q (v := (.slice none 0 0)) rfl (q_assign rfl) ?_
    refine RW.nil ?_
    refine Post.then_n ?_
    refine AW.ret ?_
    refine Post.then_r ?_
    rw [Gr.downM, if_neg (by omega)]
    exact fin_rep rfl rfl rfl (fun w' hw => repSl_nil)
  · simp [-List.getD_eq_getElem?_getD] at hc1
    simp [hrt] at hc1
    refine AW.skip ?_
    refine Post.then_n ?_
    refine AW.seq ?_
    refine AW.region ?_
    refine RW.q (v := (.slice none 0 0)) rfl (q_assign rfl) ?_
    refine RW.nil ?_
    refine Post.then_n ?_
    refine AW.seq ?_
    refine AW.seq ?_
    refine AW.region ?_
    refine RW.q rfl (q_move rfl) ?_
    refine RW.q rfl (q_move rfl) ?_
    refine RW.q rfl (q_move rfl) ?_
    refine RW.eff (fun x : {y : Value × Hp // (fun r Ψ => IsVis Ψ n arcs r) y.1 y.2 ∧ Hp.le Φ y.2} => x.1.1) (fun x => St ⟨w, Φ, []⟩ x.1.2 []) rfl (e_callS (T := fun r Ψ => IsVis Ψ n arcs r) (args := #[.int .i64 (n : Int), v1]) oK rfl rfl (fun w1 hw1 => (visitor_c w1 Φ hw1.phi h1 (by omega) (by first | omega | (simp [Gr.rev]; omega)) hok).mono fun _ _ => retS_up (fun _ _ _ hl h => h.mono hl))) ?_
    rintro ⟨⟨fv1, Φ1⟩, hvis1, hlΦ1⟩
    replace hvis1 : IsVis Φ1 n arcs fv1 := hvis1
    replace hlΦ1 : Hp.le Φ Φ1 := hlΦ1
    replace h1 := h1.mono hlΦ1
    refine RW.q rfl (q_move rfl) ?_
    refine RW.eff (fun x : {y : Value × Hp // (fun r Ψ => RepSl Ψ (Gr.distL n arcs v) r) y.1 y.2 ∧ Hp.le Φ1 y.2} => x.1.1) (fun x => St ⟨w, Φ, []⟩ x.1.2 []) rfl (e_callS (T := fun r Ψ => RepSl Ψ (Gr.distL n arcs v) r) (args := #[.int .i64 (n : Int), fv1, .int .i64 v]) oK rfl rfl (fun w1 hw1 => (distances_c w1 Φ1 hw1.phi hvis1 (by omega) hok (by omega)).mono fun _ _ => retS_up (fun _ _ _ hl h => h.mono hl))) ?_
    rintro ⟨⟨dv1, Φ2⟩, hd1, hlΦ2⟩
    replace hd1 : RepSl Φ2 (Gr.distL n arcs v) dv1 := hd1
    replace hlΦ2 : Hp.le Φ1 Φ2 := hlΦ2
    replace h1 := h1.mono hlΦ2
    replace hvis1 := hvis1.mono hlΦ2
    refine RW.q (v := .int .i64 (((Gr.distL n arcs v).length : Nat) : Int)) rfl (q_len_sl rfl hd1.sl Try.underlying29) ?_
    refine RW.q rfl (q_move rfl) ?_
    refine RW.nil ?_
    refine Post.then_n ?_
    refine AW.block ?_
    have hdl := (Gr.distL_is hok (v := v) (by omega)).1
    have hrl := fun k => Gr.reachL_len k (Gr.distL n arcs v)
    refine AW.loop (fun s J m => ∃ (k : Nat), ∃ (lv : Value), s = [(28, dv1), (29, .int .i64 (((Gr.distL n arcs v).length : Nat) : Int)), (30, .int .i64 (k : Int)), (7, lv)] ∧ J = St ⟨w, Φ, []⟩ Φ2 [.row lv 3 1 ((Gr.reachL k (Gr.distL n arcs v)).length) ((Gr.reachL k (Gr.distL n arcs v)).map (Value.int .i64))] ∧ m = n - k ∧ (k ≤ n) ∧ (IsSl lv (Gr.reachL k (Gr.distL n arcs v)).length)) (s0 := _) (J1 := _) (m0 := _) ⟨0, _, rfl, rfl, rfl, (by omega), isSl_nil⟩ ⟨rfl, rfl, rfl, rfl, trivial⟩ (fun _ h => addNil h) ?_
    rintro _ _ _ _ ⟨k, lv, rfl, rfl, rfl, hk, hlv⟩
    have hrlk := hrl k
    refine AW.seq ?_
    refine AW.region ?_
    refine RW.q (v := .bool (decide ((k : Int) < (((Gr.distL n arcs v).length : Nat) : Int)))) rfl (q_lss rfl rfl) ?_
    refine RW.nil ?_
    refine Post.then_n ?_
    refine AW.seq ?_
    refine AW.cond (b := decide ((k : Int) < (((Gr.distL n arcs v).length : Nat) : Int))) rfl (fun hc2 => ?_) (fun hc2 => ?_)
    · simp [-List.getD_eq_getElem?_getD] at hc2
      refine AW.skip ?_
      refine Post.then_n ?_
      refine AW.seq ?_
      refine AW.block ?_
      refine AW.seq ?_
      refine AW.region ?_
      refine RW.q rfl (q_move rfl) ?_
      refine RW.q (v := .pointer (some (Value.at dv1 (k * 1)))) rfl (q_indexAddr rfl rfl hd1.sl Try.underlying29 sz3 (by omega) (by omega) rfl) ?_
      refine RW.q (v := .int .i64 ((Gr.distL n arcs v).getD k 0)) rfl (q_load rfl Try.underlying3 rfl (Cell.repInt hd1 (by omega))) ?_
      refine RW.q (v := .int .i64 (k : Int)) rfl (q_assign rfl) ?_
      refine RW.q (v := .int .i64 ((Gr.distL n arcs v).getD k 0)) rfl (q_assign rfl) ?_
      refine RW.nil ?_
      refine Post.then_n ?_
      refine AW.seq ?_
      refine AW.region ?_
      refine RW.q rfl (q_move rfl) ?_
      refine RW.q (v := .bool (decide ((0 : Int) ≤ (Gr.distL n arcs v).getD k 0))) rfl (q_geq rfl rfl) ?_
      refine RW.nil ?_
      refine Post.then_n ?_
      refine AW.cond (b := decide ((0 : Int) ≤ (Gr.distL n arcs v).getD k 0)) rfl (fun hc3 => ?_) (fun hc3 => ?_)
      · simp [-List.getD_eq_getElem?_getD] at hc3
        refine AW.region ?_
        refine RW.q rfl (q_move rfl) ?_
        refine RW.q rfl (q_move rfl) ?_
        refine RW.eff (fun b1 : Nat => (.slice (some ⟨b1, 0, none⟩) 1 1)) (fun b1 => St ⟨w, Φ, []⟩ Φ2 [.row (.slice (some ⟨b1, 0, none⟩) 1 1) 3 1 1 ([.int .i64 (k : Int)]), .row lv 3 1 ((Gr.reachL k (Gr.distL n arcs v)).length) ((Gr.reachL k (Gr.distL n arcs v)).map (Value.int .i64))]) rfl (e_buildSlice (vals := [(0, .int .i64 (k : Int))]) (cells := [.int .i64 (k : Int)]) Try.underlying29 inf3 rfl rfl rfl (by kernel_rfl) rfl) ?_
        intro b1
        refine RW.eff (fun xv : {vq : Value // IsSl vq ((Gr.reachL k (Gr.distL n arcs v)).length + 1)} => xv.1) (fun xv => St ⟨w, Φ, []⟩ Φ2 [.row (.slice (some ⟨b1, 0, none⟩) 1 1) 3 1 1 ([.int .i64 (k : Int)]), .row xv.1 3 1 (((Gr.reachL k (Gr.distL n arcs v)) ++ [(k : Int)]).length) (((Gr.reachL k (Gr.distL n arcs v)) ++ [(k : Int)]).map (Value.int .i64))]) rfl (e_append 1 rfl rfl rfl Try.underlying29 inf3 rfl rfl rfl (Cells.row0 0 rfl) rfl (by omega) (by omega) (fun _ => by simp)) ?_
        rintro ⟨va1, hva1⟩
        refine RW.wk (J' := St ⟨w, Φ, []⟩ Φ2 [.row va1 3 1 (((Gr.reachL k (Gr.distL n arcs v)) ++ [(k : Int)]).length) (((Gr.reachL k (Gr.distL n arcs v)) ++ [(k : Int)]).map (Value.int .i64))]) (fun _ h => StP.drop h (by exact .cons _ (.cons_cons _ (.slnil)))) ?_
        refine RW.q (v := va1) rfl (q_assign rfl) ?_
        refine RW.nil ?_
        refine Post.blk_n (Post.then_n ?_)
        refine AW.region ?_
        refine RW.q (v := .int .i64 ((k + 1 : Nat) : Int)) rfl (q_add rfl rfl (by omega) (by unfold I64; omega)) ?_
        refine RW.q rfl (q_move rfl) ?_
        refine RW.nil ?_
        have hrs := Gr.reachL_step (k := k) (d := Gr.distL n arcs v)
        rw [if_pos (by omega)] at hrs
        exact Post.back (s' := _) (J' := _) (m' := _) (by omega) ⟨k + 1, va1, rfl, rfl, rfl, (by omega), (by rw [hrs]; simpa using hva1)⟩ ⟨rfl, rfl, rfl, rfl, trivial⟩ (fun _ h => by rw [hrs]; simpa using h)
      · simp [-List.getD_eq_getElem?_getD] at hc3
        refine AW.skip ?_
        refine Post.blk_n (Post.then_n ?_)
        refine AW.region ?_
        refine RW.q (v := .int .i64 ((k + 1 : Nat) : Int)) rfl (q_add rfl rfl (by omega) (by unfold I64; omega)) ?_
        refine RW.q rfl (q_move rfl) ?_
        refine RW.nil ?_
        have hrs := Gr.reachL_step (k := k) (d := Gr.distL n arcs v)
        rw [if_neg (by omega)] at hrs
        exact Post.back (s' := _) (J' := _) (m' := _) (by omega) ⟨k + 1, lv, rfl, rfl, rfl, (by omega), (by rw [hrs]; exact hlv)⟩ ⟨rfl, rfl, rfl, rfl, trivial⟩ (fun _ h => by rw [hrs]; exact h)
    · simp [-List.getD_eq_getElem?_getD] at hc2
      refine AW.exit ?_
      refine Post.then_x (Post.then_x (Post.blk_hit (Post.then_n ?_)))
      refine AW.seq ?_
      refine AW.region ?_
      refine RW.q rfl (q_move rfl) ?_
      refine RW.q (v := lv) rfl (q_assign rfl) ?_
      refine RW.nil ?_
      refine Post.then_n ?_
      refine AW.ret ?_
      obtain rfl : k = n := by omega
      rw [Gr.downM, if_pos ⟨hrt, by omega⟩, Int.toNat_natCast]
      have hrl := Gr.reachL_len k (Gr.distL k arcs v)
      refine fin_rep rfl rfl rfl (fun w' hw => RowS.ints (row_ext hw 0 rfl) (by simp only [maxSl]; omega) (fun x hx => ?_))
      have := Gr.reachL_mem.1 hx
      unfold I64; omega

theorem reached_f (w : World) (Φ : Hp) (hΦ : Hp.le Φ (hp w)) {n : Int} {arcs : List Gr.Arc} {v1 : Value} (h1 : RepSl Φ arcs v1) (hrf : Gr.rightB n arcs = false) {v : Int} :
    Calls pg 44 #[.int .i64 n, v1, .int .i64 v] w (RetS noHp w fun r Ψ => RepSl Ψ (Gr.downM n arcs v) r) := by
  refine calls_of_AW (args := [.int .i64 n, v1, .int .i64 v]) Try.func44 rfl (lBT rfl) (St ⟨w, Φ, []⟩ Φ []) (StP.init w Φ hΦ []) ?_
  show AW pg 43 [] _ _ _ [(0, .int .i64 n), (1, v1), (2, .int .i64 v)] _
  refine AW.seq ?_
  refine AW.region ?_
  refine RW.q (v := (.slice none 0 0)) rfl (q_assign rfl) ?_
  refine RW.nil ?_
  refine Post.then_n ?_
  refine AW.seq ?_
  refine AW.seq ?_
  refine AW.region ?_
  refine RW.q rfl (q_move rfl) ?_
  refine RW.q rfl (q_move rfl) ?_
  refine RW.q (v := .bool (Gr.rightB n arcs)) rfl (q_call (args := #[.int .i64 n, v1]) oK rfl rfl (fun w1 hw1 => Right_c w1 Φ hw1.phi h1)) ?_
  refine RW.q (v := .bool (!(Gr.rightB n arcs))) rfl (q_not rfl) ?_
  refine RW.q rfl (q_move rfl) ?_
  refine RW.g (b := (!(Gr.rightB n arcs))) (v := .int .i64 v) rfl rfl rfl (fun h => q_move rfl) ?_
  refine RW.g (b := (!(Gr.rightB n arcs))) (v := .bool (decide (v < 0))) rfl rfl rfl (fun h => q_lss (gv_pos h) rfl) ?_
  refine RW.q (v := .bool ((!(Gr.rightB n arcs)) || (decide (v < 0)))) rfl (qpO rfl rfl rfl) ?_
  refine RW.q rfl (q_move rfl) ?_
  refine RW.g (b := ((!(Gr.rightB n arcs)) || (decide (v < 0)))) (v := .int .i64 v) rfl rfl rfl (fun h => q_move rfl) ?_
  refine RW.g (b := ((!(Gr.rightB n arcs)) || (decide (v < 0)))) (v := .int .i64 n) rfl rfl rfl (fun h => q_move rfl) ?_
  refine RW.g (b := ((!(Gr.rightB n arcs)) || (decide (v < 0)))) (v := .bool (decide (n ≤ v))) rfl rfl rfl (fun h => q_geq (gv_pos h) (gv_pos h)) ?_
  refine RW.q (v := .bool (((!(Gr.rightB n arcs)) || (decide (v < 0))) || (decide (n ≤ v)))) rfl (qpO rfl rfl rfl) ?_
  refine RW.nil ?_
  refine Post.then_n ?_
  refine AW.cond (b := ((!(Gr.rightB n arcs)) || (decide (v < 0))) || (decide (n ≤ v))) rfl (fun hc1 => ?_) (fun hc1 => ?_)
  · simp [-List.getD_eq_getElem?_getD] at hc1
    refine AW.seq ?_
    refine AW.region ?_
    refine RW.q (v := (.slice none 0 0)) rfl (q_assign rfl) ?_
    refine RW.nil ?_
    refine Post.then_n ?_
    refine AW.ret ?_
    refine Post.then_r ?_
    rw [Gr.downM, if_neg (by simp [hrf])]
    exact fin_rep rfl rfl rfl (fun w' hw => repSl_nil)
  · simp [-List.getD_eq_getElem?_getD] at hc1
    simp [hrf] at hc1

theorem reached_c (w : World) (Φ : Hp) (hΦ : Hp.le Φ (hp w)) {n : Int} {arcs : List Gr.Arc} {v1 : Value} (h1 : RepSl Φ arcs v1) {v : Int} :
    Calls pg 44 #[.int .i64 n, v1, .int .i64 v] w (RetS noHp w fun r Ψ => RepSl Ψ (Gr.downM n arcs v) r) := by
  cases h : Gr.rightB n arcs with
  | false => exact reached_f w Φ hΦ h1 h
  | true =>
    obtain ⟨N, rfl⟩ := Int.eq_ofNat_of_zero_le (Gr.right_ok h).1.1
    exact reached_t w Φ hΦ h1 h

theorem Down_c (w : World) (Φ : Hp) (hΦ : Hp.le Φ (hp w)) {arcs : List Gr.Arc} {v1 : Value} (h1 : RepSl Φ arcs v1) {n v : Int} :
    Calls pg 24 #[.int .i64 n, v1, .int .i64 v] w (RetS noHp w fun r Ψ => RepSl Ψ (Gr.downM n arcs v) r) := by
  refine calls_of_AW (args := [.int .i64 n, v1, .int .i64 v]) Try.func24 rfl (lBT rfl) (St ⟨w, Φ, []⟩ Φ []) (StP.init w Φ hΦ []) ?_
  show AW pg 11 [] _ _ _ [(0, .int .i64 n), (1, v1), (2, .int .i64 v)] _
  refine AW.seq ?_
  refine AW.region ?_
  refine RW.q (v := (.slice none 0 0)) rfl (q_assign rfl) ?_
  refine RW.nil ?_
  refine Post.then_n ?_
  refine AW.seq ?_
  refine AW.region ?_
  refine RW.q rfl (q_move rfl) ?_
  refine RW.q rfl (q_move rfl) ?_
  refine RW.q rfl (q_move rfl) ?_
  refine RW.eff (fun x : {y : Value × Hp × Hp // (fun r Ψ => RepSl Ψ (Gr.downM n arcs v) r) y.1 y.2.2 ∧ Hp.le Φ y.2.1 ∧ Hp.le y.2.2 y.2.1 ∧ ∀ b o, y.2.2 b = some o → w.heap.size ≤ b} => x.1.1) (fun x => St ⟨w, Φ, []⟩ x.1.2.1 []) rfl (e_callF (T := fun r Ψ => RepSl Ψ (Gr.downM n arcs v) r) (args := #[.int .i64 n, v1, .int .i64 v]) oK rfl rfl (fun w1 hw1 => reached_c w1 Φ hw1.phi h1)) ?_
  rintro ⟨⟨dv1, Φ1, Φ1n⟩, hd1, hlΦ1, hleΦ1, hfrΦ1⟩
  replace hd1 : RepSl Φ1n (Gr.downM n arcs v) dv1 := hd1
  replace hlΦ1 : Hp.le Φ Φ1 := hlΦ1
  refine RW.q (v := dv1) rfl (q_assign rfl) ?_
  refine RW.nil ?_
  refine Post.then_n ?_
  refine AW.ret ?_
  exact fin_rep rfl rfl rfl (fun w' hw => RepSl.mono hd1 (fresh_ext hw hleΦ1 hfrΦ1))

end Go.Proofs.Ytpeojogjeopfaaa
