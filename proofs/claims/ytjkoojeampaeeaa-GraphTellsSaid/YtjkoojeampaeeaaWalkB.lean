/- The walks of layer 11 (part WalkB), printed by walk.py. Conditions: those of each theorem. -/
import Derived.Test.YtjkoojeampaeeaaWalkA
namespace Go.Proofs.Ytjkoojeampaeeaa
open Go Go.K Go.RowKit

theorem evenArc : EvenE Gr.Arc := fun _ => rfl
theorem places31 : ∀ w, ((#[{ name := "From", type := 3, offset := 0, embedded := false, tag := "", pkgPath := "", byteOffset := 0 }, { name := "To", type := 3, offset := 1, embedded := false, tag := "", pkgPath := "", byteOffset := 8 }] : Array Field).mapM fun f => do pure (f.offset, ← sizeOf f.type) : Sem (Array (Nat × Nat))).run Try.prog w = .ok #[(0, 1), (1, 1)] w := fun w => by kernel_rfl
theorem zip_get {α β : Type} {l : List α} {r : List β} {i : Nat} {a : α} {b : β} (ha : l[i]? = some a) (hb : r[i]? = some b) : (l.zip r)[i]? = some (a, b) := by
  exact (List.getElem?_zip_eq_some (z := (a, b))).2 ⟨ha, hb⟩
/-- the rows of a table, each in a block of its own -/
def fam (vs : List Value) (xss : List (List Int)) : List Chunk := (vs.zip xss).map fun p => .row p.1 3 1 p.2.length (p.2.map (Value.int .i64))
theorem fam_get {vs : List Value} {xss : List (List Int)} {i : Nat} (hv : i < vs.length) (hx : i < xss.length) : (fam vs xss)[i]? = some (.row (vs.getD i undef) 3 1 (xss.getD i []).length ((xss.getD i []).map (Value.int .i64))) := by
  unfold fam
  rw [List.getElem?_map, zip_get (List.getElem?_eq_getElem hv) (List.getElem?_eq_getElem hx)]
  simp [List.getD_eq_getElem?_getD, hv, hx]
theorem fam_set {vs : List Value} {xss : List (List Int)} {i : Nat} {v : Value} {xs : List Int} : (fam vs xss).set i (.row v 3 1 xs.length (xs.map (Value.int .i64))) = fam (vs.set i v) (xss.set i xs) := by
  unfold fam
  apply List.ext_getElem?
  intro j
  by_cases hij : i = j
  · subst hij
    by_cases hl : i < min vs.length xss.length
    · rw [List.getElem?_set_self (by simpa using hl), List.getElem?_map, zip_get (a := v) (b := xs) (List.getElem?_set_self (by omega)) (List.getElem?_set_self (by omega))]; rfl
    · rw [List.getElem?_eq_none (by simp; omega), List.getElem?_eq_none (by simp; omega)]
  · rw [List.getElem?_set_ne hij, List.getElem?_map, List.getElem?_map]
    congr 1
    have h1 : (vs.set i v)[j]? = vs[j]? := List.getElem?_set_ne hij
    have h2 : (xss.set i xs)[j]? = xss[j]? := List.getElem?_set_ne hij
    cases hv : vs[j]? with
    | none => (have h3 := List.getElem?_eq_none_iff.1 hv; rw [List.getElem?_eq_none (by simp; omega), List.getElem?_eq_none (by simp; omega)])
    | some a =>
      cases hx : xss[j]? with
      | none => (have h3 := List.getElem?_eq_none_iff.1 hx; rw [List.getElem?_eq_none (by simp; omega), List.getElem?_eq_none (by simp; omega)])
      | some b => rw [zip_get hv hx, zip_get (h1.trans hv) (h2.trans hx)]
theorem made_nil {n c m : Nat} (h : n ≤ c) (hm : m = n * 1 := by rfl) : (madeCells (Value.slice none 0 0).cells (c * 1)).toList.take m = List.replicate n (Value.slice none 0 0) := by
  subst hm
  show (madeCells #[Value.slice none 0 0] (c * 1)).toList.take (n * 1) = _
  rw [madeCells_one]; simp [List.take_replicate, Nat.min_eq_left h]
/-- what a visitor is -/
def IsVis (Φ : Hp) (n : Nat) (arcs : List Gr.Arc) (fv : Value) : Prop := ∃ b nv, fv = .func (.func 34) #[] #[.pointer (some ⟨b, 0, none⟩)] ∧ PCell Φ ⟨b, 0, none⟩ nv ∧ RepSl Φ (Gr.table n arcs) nv
theorem IsVis.mono {Φ Ψ : Hp} {n : Nat} {arcs : List Gr.Arc} {fv : Value} (h : IsVis Φ n arcs fv) (hl : Hp.le Φ Ψ) : IsVis Ψ n arcs fv := let ⟨b, nv, h1, h2, h3⟩ := h; ⟨b, nv, h1, h2.mono hl, h3.mono hl⟩
theorem StP.addTriv {B : Bs} {Φ : Hp} {C C' : List Chunk} {w : World} (h : StP B Φ C w) (hc : ∀ c ∈ C', c.fp = [] ∧ ∀ Φ, c.sat Φ) : StP B Φ (C ++ C') w := by
  have hf : ∀ b, b ∈ (C ++ C').flatMap (·.fp) → b ∈ C.flatMap (·.fp) := fun b hb => by
    obtain ⟨c, hcm, hbc⟩ := List.mem_flatMap.1 hb
    rcases List.mem_append.1 hcm with h1 | h1
    · exact List.mem_flatMap.2 ⟨c, h1, hbc⟩
    · rw [(hc c h1).1] at hbc; cases hbc
  refine { h with sat := fun c hcm => ?_, sep := List.pairwise_append.2 ⟨h.sep, ?_, ?_⟩, away := fun b hb => h.away b (hf b hb) }
  · rcases List.mem_append.1 hcm with h1 | h1
    · exact h.sat c h1
    · exact (hc c h1).2 _
  · refine List.pairwise_of_forall_mem_list ?_
    intro a ha b hb x hx
    rw [(hc a ha).1] at hx; cases hx
  · intro a ha b hb x hx hx'
    rw [(hc b hb).1] at hx'; cases hx'
theorem fam_nil {n : Nat} : ∀ c ∈ fam (List.replicate n (Value.slice none 0 0)) (Gr.table n []), c.fp = [] ∧ ∀ Φ, c.sat Φ := fun c hc => by
  unfold fam at hc
  obtain ⟨⟨v, xs⟩, hp, rfl⟩ := List.mem_map.1 hc
  have h1 := (List.of_mem_zip hp).1
  have h2 := (List.of_mem_zip hp).2
  obtain rfl := List.eq_of_mem_replicate h1
  have h3 : xs = [] := by
    unfold Gr.table at h2
    obtain ⟨i, _, rfl⟩ := List.mem_map.1 h2
    simp [Gr.succs]
  subst h3
  exact ⟨rfl, fun Φ => ⟨rfl, .inl ⟨rfl, rfl⟩⟩⟩
set_option maxHeartbeats 400000 in
theorem reverse_c (w : World) (Φ : Hp) (hΦ : Hp.le Φ (hp w)) {arcs : List Gr.Arc} {v1 : Value} (h1 : RepSl Φ arcs v1) (hl : arcs.length ≤ 4096) :
    Calls Try.prog 29 #[v1] w (RetS noHp w fun r Ψ => RepSl Ψ (Gr.rev arcs) r) := by
  refine calls_of_AW (args := [v1]) Try.func29 rfl (Nat.le_of_ble_eq_true rfl) (St ⟨w, Φ, []⟩ Φ []) (StP.init w Φ hΦ []) ?_
  show AW Try.prog 26 [] _ _ _ [(0, v1)] _
  have hmh1 := hl
  have hI := arcI h1
  refine AW.seq ?_
  refine AW.region ?_
  refine RW.q (v := (.slice none 0 0)) rfl (q_assign rfl) ?_
  refine RW.nil ?_
  refine Post.then_n ?_
  refine AW.seq ?_
  refine AW.region ?_
  refine RW.q (v := v1) rfl (q_move rfl) ?_
  refine RW.q (v := .int .i64 ((arcs.length : Nat) : Int)) rfl (q_len_sl rfl h1.sl Try.underlying22) ?_
  refine RW.eff (fun b1 : Nat => (.slice (some ⟨b1, 0, none⟩) arcs.length arcs.length)) (fun b1 => St ⟨w, Φ, []⟩ Φ [.row (.slice (some ⟨b1, 0, none⟩) arcs.length arcs.length) 31 2 arcs.length (flat (List.replicate arcs.length (⟨0, 0⟩ : Gr.Arc)))]) rfl (e_makeSlice rfl rfl Try.underlying22 inf31 (by omega) (by omega) (by omega) rfl (made_E evenArc (d := (⟨0, 0⟩ : Gr.Arc)) rfl (by omega) rfl)) ?_
  intro b1
  refine RW.q (v := (.slice (some ⟨b1, 0, none⟩) arcs.length arcs.length)) rfl (q_assign rfl) ?_
  refine RW.nil ?_
  refine Post.then_n ?_
  refine AW.seq ?_
  refine AW.seq ?_
  refine AW.region ?_
  refine RW.q (v := v1) rfl (q_move rfl) ?_
  refine RW.q (v := .int .i64 ((arcs.length : Nat) : Int)) rfl (q_len_sl rfl h1.sl Try.underlying22) ?_
  refine RW.q (v := .int .i64 0) rfl (q_move rfl) ?_
  refine RW.nil ?_
  refine Post.then_n ?_
  refine AW.block ?_
  refine AW.loop (fun s J m => ∃ (k : Nat), ∃ (L : List Gr.Arc), s = [(9, v1), (10, .int .i64 ((arcs.length : Nat) : Int)), (11, .int .i64 (k : Int)), (3, (.slice (some ⟨b1, 0, none⟩) arcs.length arcs.length))] ∧ J = St ⟨w, Φ, []⟩ Φ [.row (.slice (some ⟨b1, 0, none⟩) arcs.length arcs.length) 31 2 arcs.length (flat L)] ∧ m = arcs.length - k ∧ (k ≤ arcs.length) ∧ (L.length = arcs.length) ∧ (∀ j, j < k → L.getD j default = (Gr.rev arcs).getD j default)) (s0 := _) (J1 := _) (m0 := _) ⟨0, _, rfl, rfl, rfl, (by omega), (by simp), (by omega)⟩ ⟨rfl, rfl, rfl, rfl, trivial⟩ (fun _ h => h) ?_
  rintro _ _ _ _ ⟨k, L, rfl, rfl, rfl, hk, hL, heq⟩
  refine AW.seq ?_
  refine AW.region ?_
  refine RW.q (v := .bool (decide ((k : Int) < ((arcs.length : Nat) : Int)))) rfl (q_lss rfl rfl) ?_
  refine RW.nil ?_
  refine Post.then_n ?_
  refine AW.seq ?_
  refine AW.cond (b := decide ((k : Int) < ((arcs.length : Nat) : Int))) rfl (fun hc1 => ?_) (fun hc1 => ?_)
  · simp [-List.getD_eq_getElem?_getD] at hc1
    refine AW.skip ?_
    refine Post.then_n ?_
    refine AW.seq ?_
    refine AW.block ?_
    refine AW.seq ?_
    refine AW.region ?_
    refine RW.q (v := .int .i64 (k : Int)) rfl (q_move rfl) ?_
    refine RW.q (v := .pointer (some (Value.at v1 (k * 2)))) rfl (q_indexAddr rfl rfl h1.sl Try.underlying22 sz31 (by omega) (by omega) rfl) ?_
    refine RW.q (v := .agg #[.int .i64 ((arcs.getD k default).From), .int .i64 ((arcs.getD k default).To)]) rfl (q_loadAgg rfl Try.underlying31 rfl sz31 rfl (Cells.repE h1 (by omega) rfl)) ?_
    refine RW.eff (fun b2 : Nat => .pointer (some (⟨b2, 0, none⟩))) (fun b2 => St ⟨w, Φ, []⟩ Φ [.blk b2 31 [.int .i64 0, .int .i64 0], .row (.slice (some ⟨b1, 0, none⟩) arcs.length arcs.length) 31 2 arcs.length (flat L)]) rfl (e_alloc zero31) ?_
    intro b2
    refine RW.q (v := .int .i64 (k : Int)) rfl (q_assign rfl) ?_
    refine RW.effn (J' := St ⟨w, Φ, []⟩ Φ [.blk b2 31 [.int .i64 ((arcs.getD k default).From), .int .i64 ((arcs.getD k default).To)], .row (.slice (some ⟨b1, 0, none⟩) arcs.length arcs.length) 31 2 arcs.length (flat L)]) (e_store (v := .agg #[.int .i64 ((arcs.getD k default).From), .int .i64 ((arcs.getD k default).To)]) 0 rfl rfl rfl sz31 rfl rfl rfl rfl rfl) ?_
    refine RW.nil ?_
    refine Post.then_n ?_
    refine AW.region ?_
    refine RW.q (v := (.slice (some ⟨b1, 0, none⟩) arcs.length arcs.length)) rfl (q_move rfl) ?_
    refine RW.q (v := .int .i64 (k : Int)) rfl (q_move rfl) ?_
    refine RW.q (v := .pointer (some (⟨b2, 1, none⟩))) rfl (q_fieldAddr rfl Try.underlying31 rfl sz3 rfl) ?_
    refine RW.q (v := .int .i64 ((arcs.getD k default).To)) rfl (q_load rfl Try.underlying3 rfl (Cell.blk 0 rfl rfl)) ?_
    refine RW.q (v := .pointer (some (⟨b2, 0, none⟩))) rfl (q_fieldAddr rfl Try.underlying31 rfl sz3 rfl) ?_
    refine RW.q (v := .int .i64 ((arcs.getD k default).From)) rfl (q_load rfl Try.underlying3 rfl (Cell.blk 0 rfl rfl)) ?_
    refine RW.q (v := .agg #[.int .i64 ((arcs.getD k default).To), .int .i64 ((arcs.getD k default).From)]) rfl (q_build (vals := [(0, .int .i64 ((arcs.getD k default).To)), (1, .int .i64 ((arcs.getD k default).From))]) zero31 Try.underlying31 places31 rfl rfl) ?_
    refine RW.q (v := .pointer (some (Value.at (.slice (some ⟨b1, 0, none⟩) arcs.length arcs.length) (k * 2)))) rfl (q_indexAddr rfl rfl isSl_mk Try.underlying22 sz31 (by omega) (by omega) rfl) ?_
    refine RW.effn (J' := St ⟨w, Φ, []⟩ Φ [.blk b2 31 [.int .i64 ((arcs.getD k default).From), .int .i64 ((arcs.getD k default).To)], .row (.slice (some ⟨b1, 0, none⟩) arcs.length arcs.length) 31 2 arcs.length (flat (L.set k ⟨(arcs.getD k default).To, (arcs.getD k default).From⟩))]) (e_storeRow (v := .agg #[.int .i64 ((arcs.getD k default).To), .int .i64 ((arcs.getD k default).From)]) 1 rfl rfl rfl sz31 rfl rfl (by rw [flat_len evenArc]; simp [Rep.sz]; omega) (splice_E evenArc (k := k) (x := ⟨(arcs.getD k default).To, (arcs.getD k default).From⟩) (by first | omega | (simp; omega)) rfl) rfl) ?_
    refine RW.nil ?_
    refine Post.blk_n (Post.then_n ?_)
    refine AW.region ?_
    refine RW.q (v := .int .i64 ((k + 1 : Nat) : Int)) rfl (q_add rfl rfl (by omega) (by unfold I64; omega)) ?_
    refine RW.q (v := .int .i64 ((k + 1 : Nat) : Int)) rfl (q_move rfl) ?_
    refine RW.nil ?_
    exact Post.back (s' := _) (J' := _) (m' := _) (by omega) ⟨k + 1, _, rfl, rfl, rfl, (by omega), (by simp [hL]), (Gr.set_get (by omega) heq (Gr.rev_get (by omega)).symm)⟩ ⟨rfl, rfl, rfl, rfl, trivial⟩ (fun _ h => StP.drop h (by exact .cons _ (.cons_cons _ (.slnil))))
  · simp [-List.getD_eq_getElem?_getD] at hc1
    refine AW.exit ?_
    refine Post.then_x (Post.then_x (Post.blk_hit (Post.then_n ?_)))
    refine AW.seq ?_
    refine AW.region ?_
    refine RW.q (v := (.slice (some ⟨b1, 0, none⟩) arcs.length arcs.length)) rfl (q_move rfl) ?_
    refine RW.q (v := (.slice (some ⟨b1, 0, none⟩) arcs.length arcs.length)) rfl (q_assign rfl) ?_
    refine RW.nil ?_
    refine Post.then_n ?_
    refine AW.ret ?_
    obtain rfl : L = Gr.rev arcs := Gr.rev_eq hL (fun j hj => heq j (by omega))
    refine fin_rep rfl rfl rfl (fun w' hw => RowS.repE evenArc (row_ext hw 0 rfl) hL (by simp only [Rep.bytes, maxSl]; omega) (fun x hx => ?_))
    obtain ⟨y, hy, rfl⟩ := List.mem_map.1 hx
    exact ⟨(h1.wfE y hy).2, (h1.wfE y hy).1⟩

set_option maxHeartbeats 1000000 in
theorem visitor_c (w : World) (Φ : Hp) (hΦ : Hp.le Φ (hp w)) {n : Nat} {arcs : List Gr.Arc} {v1 : Value} (h1 : RepSl Φ arcs v1) (hn : n ≤ 256) (hl : arcs.length ≤ 4096) (hok : Gr.Ok n arcs) :
    Calls Try.prog 27 #[.int .i64 (n : Int), v1] w (RetS noHp w fun r Ψ => IsVis Ψ n arcs r) := by
  refine calls_of_AW (args := [.int .i64 (n : Int), v1]) Try.func27 rfl (Nat.le_of_ble_eq_true rfl) (St ⟨w, Φ, []⟩ Φ []) (StP.init w Φ hΦ []) ?_
  show AW Try.prog 31 [] _ _ _ [(0, .int .i64 (n : Int)), (1, v1)] _
  have hfa0 := fun (k : Nat) (hk : k < arcs.length) => hok (arcs.getD k default) (by simp [List.getD_eq_getElem?_getD, hk])
  refine AW.seq ?_
  refine AW.region ?_
  refine RW.q (v := .nilFunc) rfl (q_assign rfl) ?_
  refine RW.nil ?_
  refine Post.then_n ?_
  refine AW.seq ?_
  refine AW.region ?_
  refine RW.q (v := .int .i64 (n : Int)) rfl (q_move rfl) ?_
  refine RW.eff (fun b1 : Nat => (.slice (some ⟨b1, 0, none⟩) n n)) (fun b1 => St ⟨w, Φ, []⟩ Φ [.row (.slice (some ⟨b1, 0, none⟩) n n) 25 1 n (List.replicate n (Value.slice none 0 0))]) rfl (e_makeSlice rfl rfl Try.underlying45 inf25 (by omega) (by omega) (by omega) rfl (made_nil (by omega))) ?_
  intro b1
  refine RW.eff (fun b2 : Nat => .pointer (some (⟨b2, 0, none⟩))) (fun b2 => St ⟨w, Φ, []⟩ Φ [.blk b2 45 [(.slice none 0 0)], .row (.slice (some ⟨b1, 0, none⟩) n n) 25 1 n (List.replicate n (Value.slice none 0 0))]) rfl (e_alloc zero45) ?_
  intro b2
  refine RW.effn (J' := St ⟨w, Φ, []⟩ Φ [.blk b2 45 [(.slice (some ⟨b1, 0, none⟩) n n)], .row (.slice (some ⟨b1, 0, none⟩) n n) 25 1 n (List.replicate n (Value.slice none 0 0))]) (e_store (v := (.slice (some ⟨b1, 0, none⟩) n n)) 0 rfl rfl rfl sz45 rfl rfl rfl rfl rfl) ?_
  refine RW.nil ?_
  refine Post.then_n ?_
  refine AW.seq ?_
  refine AW.seq ?_
  refine AW.region ?_
  refine RW.q (v := v1) rfl (q_move rfl) ?_
  refine RW.q (v := .int .i64 ((arcs.length : Nat) : Int)) rfl (q_len_sl rfl h1.sl Try.underlying22) ?_
  refine RW.q (v := .int .i64 0) rfl (q_move rfl) ?_
  refine RW.nil ?_
  refine Post.then_n ?_
  refine AW.block ?_
  refine AW.loop (fun s J m => ∃ (k : Nat), ∃ (vs : List Value), s = [(10, v1), (11, .int .i64 ((arcs.length : Nat) : Int)), (12, .int .i64 (k : Int)), (5, .pointer (some (⟨b2, 0, none⟩)))] ∧ J = St ⟨w, Φ, []⟩ Φ ([.blk b2 45 [(.slice (some ⟨b1, 0, none⟩) n n)], .row (.slice (some ⟨b1, 0, none⟩) n n) 25 1 n vs] ++ fam vs (Gr.table n (arcs.take k))) ∧ m = arcs.length - k ∧ (k ≤ arcs.length) ∧ (vs.length = n)) (s0 := _) (J1 := _) (m0 := _) ⟨0, List.replicate n (Value.slice none 0 0), rfl, rfl, rfl, (by omega), (by simp)⟩ ⟨rfl, rfl, rfl, rfl, trivial⟩ (fun _ h => by rw [List.take_zero]; exact StP.addTriv h fam_nil) ?_
  rintro _ _ _ _ ⟨k, vs, rfl, rfl, rfl, hk, hvl⟩
  refine AW.seq ?_
  refine AW.region ?_
  refine RW.q (v := .bool (decide ((k : Int) < ((arcs.length : Nat) : Int)))) rfl (q_lss rfl rfl) ?_
  refine RW.nil ?_
  refine Post.then_n ?_
  refine AW.seq ?_
  refine AW.cond (b := decide ((k : Int) < ((arcs.length : Nat) : Int))) rfl (fun hc1 => ?_) (fun hc1 => ?_)
  · simp [-List.getD_eq_getElem?_getD] at hc1
    refine AW.skip ?_
    refine Post.then_n ?_
    refine AW.seq ?_
    refine AW.block ?_
    refine AW.seq ?_
    refine AW.region ?_
    refine RW.q (v := .pointer (some (Value.at v1 (k * 2)))) rfl (q_indexAddr rfl rfl h1.sl Try.underlying22 sz31 (by omega) (by omega) rfl) ?_
    refine RW.q (v := .agg #[.int .i64 ((arcs.getD k default).From), .int .i64 ((arcs.getD k default).To)]) rfl (q_loadAgg rfl Try.underlying31 rfl sz31 rfl (Cells.repE h1 (by omega) rfl)) ?_
    refine RW.eff (fun b3 : Nat => .pointer (some (⟨b3, 0, none⟩))) (fun b3 => St ⟨w, Φ, []⟩ Φ ([.blk b3 31 [.int .i64 0, .int .i64 0], .blk b2 45 [(.slice (some ⟨b1, 0, none⟩) n n)], .row (.slice (some ⟨b1, 0, none⟩) n n) 25 1 n vs] ++ fam vs (Gr.table n (arcs.take k)))) rfl (e_alloc zero31) ?_
    intro b3
    refine RW.effn (J' := St ⟨w, Φ, []⟩ Φ ([.blk b3 31 [.int .i64 ((arcs.getD k default).From), .int .i64 ((arcs.getD k default).To)], .blk b2 45 [(.slice (some ⟨b1, 0, none⟩) n n)], .row (.slice (some ⟨b1, 0, none⟩) n n) 25 1 n vs] ++ fam vs (Gr.table n (arcs.take k)))) (e_store (v := .agg #[.int .i64 ((arcs.getD k default).From), .int .i64 ((arcs.getD k default).To)]) 0 rfl rfl rfl sz31 rfl rfl rfl rfl rfl) ?_
    refine RW.nil ?_
    refine Post.then_n ?_
    have hfa := hfa0 k (by omega)
    have hin : (arcs.getD k default).From.toNat < n := by omega
    have hiv : (arcs.getD k default).From.toNat < vs.length := by rw [hvl]; exact hin
    have hit : (arcs.getD k default).From.toNat < (Gr.table n (arcs.take k)).length := by rw [Gr.table_len]; exact hin
    have hsl : ((Gr.table n (arcs.take k)).getD (arcs.getD k default).From.toNat []).length ≤ 4096 := by rw [Gr.table_get hin]; have := Gr.succs_len (arcs.take k) ((arcs.getD k default).From.toNat : Nat); simp only [List.length_take] at this; omega
    refine AW.draw (J0 := St ⟨w, Φ, []⟩ Φ [.blk b3 31 [.int .i64 (arcs.getD k default).From, .int .i64 (arcs.getD k default).To], .blk b2 45 [(.slice (some ⟨b1, 0, none⟩) n n)], .row (.slice (some ⟨b1, 0, none⟩) n n) 25 1 n vs]) [true, true, true, true, true, true, true, true, true, true, false, false, true, false] hmix (by kernel_rfl) ?_
    refine DW.q (v := (.slice (some ⟨b1, 0, none⟩) n n)) (fun _ h => StP.drop h (List.sublist_append_left _ _)) rfl (q_load rfl Try.underlying45 rfl (Cell.blk 1 rfl rfl)) ?_
    refine DW.q (v := .pointer (some ⟨b3, 0, none⟩)) (fun _ h => StP.drop h (List.sublist_append_left _ _)) rfl (q_fieldAddr rfl Try.underlying31 rfl sz3 rfl) ?_
    refine DW.q (v := .int .i64 (arcs.getD k default).From) (fun _ h => StP.drop h (List.sublist_append_left _ _)) rfl (q_load rfl Try.underlying3 rfl (Cell.blk 0 rfl rfl)) ?_
    refine DW.q (v := (.slice (some ⟨b1, 0, none⟩) n n)) (fun _ h => StP.drop h (List.sublist_append_left _ _)) rfl (q_load rfl Try.underlying45 rfl (Cell.blk 1 rfl rfl)) ?_
    refine DW.q (v := .pointer (some ⟨b3, 0, none⟩)) (fun _ h => StP.drop h (List.sublist_append_left _ _)) rfl (q_fieldAddr rfl Try.underlying31 rfl sz3 rfl) ?_
    refine DW.q (v := .int .i64 (arcs.getD k default).From) (fun _ h => StP.drop h (List.sublist_append_left _ _)) rfl (q_load rfl Try.underlying3 rfl (Cell.blk 0 rfl rfl)) ?_
    refine DW.q (v := .pointer (some (Value.at (.slice (some ⟨b1, 0, none⟩) n n) ((arcs.getD k default).From.toNat * 1)))) (fun _ h => StP.drop h (List.sublist_append_left _ _)) rfl (q_indexAddr rfl rfl isSl_mk Try.underlying45 sz25 (by omega) (by omega) rfl) ?_
    refine DW.q (v := (vs.getD (arcs.getD k default).From.toNat undef)) (fun _ h => StP.drop h (List.sublist_append_left _ _)) rfl (q_load rfl Try.underlying25 rfl (Cell.row 2 rfl (getD_some1 hiv))) ?_
    refine DW.q (v := .pointer (some ⟨b3, 1, none⟩)) (fun _ h => StP.drop h (List.sublist_append_left _ _)) rfl (q_fieldAddr rfl Try.underlying31 rfl sz3 rfl) ?_
    refine DW.q (v := .int .i64 (arcs.getD k default).To) (fun _ h => StP.drop h (List.sublist_append_left _ _)) rfl (q_load rfl Try.underlying3 rfl (Cell.blk 0 rfl rfl)) ?_
    refine DW.eff (fun b4 : Nat => .slice (some ⟨b4, 0, none⟩) 1 1) (fun b4 => St ⟨w, Φ, []⟩ Φ (.row (.slice (some ⟨b4, 0, none⟩) 1 1) 3 1 1 [.int .i64 (arcs.getD k default).To] :: [.blk b3 31 [.int .i64 (arcs.getD k default).From, .int .i64 (arcs.getD k default).To], .blk b2 45 [(.slice (some ⟨b1, 0, none⟩) n n)], .row (.slice (some ⟨b1, 0, none⟩) n n) 25 1 n vs] ++ fam vs (Gr.table n (arcs.take k)))) (fun _ _ _ h => StP.drop h (.cons _ (List.sublist_append_left _ _))) rfl (e_buildSlice (vals := [(0, .int .i64 (arcs.getD k default).To)]) (cells := [.int .i64 (arcs.getD k default).To]) Try.underlying25 inf3 rfl rfl rfl (by kernel_rfl) rfl) ?_
    intro b4
    have hget : ((.row (.slice (some ⟨b4, 0, none⟩) 1 1) 3 1 1 [.int .i64 (arcs.getD k default).To] :: [.blk b3 31 [.int .i64 (arcs.getD k default).From, .int .i64 (arcs.getD k default).To], .blk b2 45 [(.slice (some ⟨b1, 0, none⟩) n n)], .row (.slice (some ⟨b1, 0, none⟩) n n) 25 1 n vs] ++ fam vs (Gr.table n (arcs.take k))) : List Chunk)[4 + (arcs.getD k default).From.toNat]? = some (.row (vs.getD (arcs.getD k default).From.toNat undef) 3 1 ((Gr.table n (arcs.take k)).getD (arcs.getD k default).From.toNat []).length (((Gr.table n (arcs.take k)).getD (arcs.getD k default).From.toNat []).map (Value.int .i64))) := by
      rw [show 4 + (arcs.getD k default).From.toNat = ((arcs.getD k default).From.toNat + 3) + 1 by omega]; simp only [List.cons_append, List.nil_append, List.getElem?_cons_succ]; exact fam_get hiv hit
    refine DW.eff (fun x : {v : Value // IsSl v (((Gr.table n (arcs.take k)).getD (arcs.getD k default).From.toNat []).length + 1)} => x.1) (fun x => St ⟨w, Φ, []⟩ Φ (.row (.slice (some ⟨b4, 0, none⟩) 1 1) 3 1 1 [.int .i64 (arcs.getD k default).To] :: [.blk b3 31 [.int .i64 (arcs.getD k default).From, .int .i64 (arcs.getD k default).To], .blk b2 45 [(.slice (some ⟨b1, 0, none⟩) n n)], .row (.slice (some ⟨b1, 0, none⟩) n n) 25 1 n vs] ++ fam (vs.set (arcs.getD k default).From.toNat x.1) (Gr.table n (arcs.take (k + 1))))) (fun _ _ _ h => StP.drop h (.cons _ (List.sublist_append_left _ _))) rfl (e_append (4 + (arcs.getD k default).From.toNat) hget rfl rfl Try.underlying25 inf3 rfl rfl rfl (Cells.row0 0 rfl) rfl (by omega) (by omega) (fun y => ?_)) ?_
    · rw [Gr.table_step hok (by omega), ← fam_set, show 4 + (arcs.getD k default).From.toNat = ((arcs.getD k default).From.toNat + 3) + 1 by omega]
      simp only [List.cons_append, List.nil_append, List.set_cons_succ, List.map_append, List.map_cons, List.map_nil, List.length_append, List.length_cons, List.length_nil, Nat.zero_add]
    rintro ⟨v5, hv5⟩
    refine DW.q (v := .pointer (some (Value.at (.slice (some ⟨b1, 0, none⟩) n n) ((arcs.getD k default).From.toNat * 1)))) (fun _ h => StP.drop h (.cons _ (List.sublist_append_left _ _))) rfl (q_indexAddr rfl rfl isSl_mk Try.underlying45 sz25 (by omega) (by omega) rfl) ?_
    have hone : v5.cells.size = 1 ∧ v5.cells.toList = [v5] ∧ v5.oneCell' = true := by obtain ⟨A, c, rfl, _⟩ := hv5; exact ⟨rfl, rfl, rfl⟩
    refine DW.effn (J' := St ⟨w, Φ, []⟩ Φ (.row (.slice (some ⟨b4, 0, none⟩) 1 1) 3 1 1 [.int .i64 (arcs.getD k default).To] :: .blk b3 31 [.int .i64 (arcs.getD k default).From, .int .i64 (arcs.getD k default).To] :: .blk b2 45 [(.slice (some ⟨b1, 0, none⟩) n n)] :: .row (.slice (some ⟨b1, 0, none⟩) n n) 25 1 n (vs.set (arcs.getD k default).From.toNat v5) :: fam (vs.set (arcs.getD k default).From.toNat v5) (Gr.table n (arcs.take (k + 1))))) (fun h => absurd rfl h) (e_storeRow (v := v5) 3 rfl rfl rfl sz25 hone.1 (by rw [hone.2.1]; simp [hone.2.2]) (by omega) (by rw [hone.2.1]; exact splice_one hiv) rfl) ?_
    refine DW.nil ?_
    refine Post.blk_n (Post.then_n ?_)
    refine AW.region ?_
    refine RW.q (v := .int .i64 ((k + 1 : Nat) : Int)) rfl (q_add rfl rfl (by omega) (by unfold I64; omega)) ?_
    refine RW.q (v := .int .i64 ((k + 1 : Nat) : Int)) rfl (q_move rfl) ?_
    refine RW.nil ?_
    exact Post.back (s' := _) (J' := _) (m' := _) (by omega) ⟨k + 1, vs.set (arcs.getD k default).From.toNat v5, rfl, rfl, rfl, (by omega), (by simp [hvl])⟩ ⟨rfl, rfl, rfl, rfl, trivial⟩ (fun _ h => StP.drop h (.cons _ (.cons _ (List.Sublist.refl _))))
  · simp [-List.getD_eq_getElem?_getD] at hc1
    refine AW.exit ?_
    refine Post.then_x (Post.then_x (Post.blk_hit (Post.then_n ?_)))
    refine AW.seq ?_
    refine AW.region ?_
    refine RW.q (v := .func (.func 34) #[] #[.pointer (some (⟨b2, 0, none⟩))]) rfl (q_makeFunc rfl rfl) ?_
    refine RW.q (v := .func (.func 34) #[] #[.pointer (some (⟨b2, 0, none⟩))]) rfl (q_assign rfl) ?_
    refine RW.nil ?_
    refine Post.then_n ?_
    refine AW.ret ?_
    refine fin_rep rfl rfl rfl (fun w' hw => ⟨b2, .slice (some ⟨b1, 0, none⟩) n n, rfl, ⟨_, _, _, blk_ext hw 0 rfl, rfl, rfl⟩, ?_⟩)
    obtain rfl : k = arcs.length := by omega
    rw [List.take_length] at hw
    have hro := row_ext (Φr := noHp) hw 1 rfl
    refine ⟨by rw [Gr.table_len]; exact isSl_mk, by rw [Gr.table_len]; simp only [Rep.bytes, maxSl]; omega, fun i hi => ?_⟩
    have hin : i < n := by rw [Gr.table_len] at hi; exact hi
    have hiv : i < vs.length := by rw [hvl]; exact hin
    have hri := row_ext (Φr := noHp) hw (i + 2) (show ([_, _] ++ fam vs (Gr.table n arcs))[i + 2]? = _ from fam_get hiv hi)
    have hsl : ((Gr.table n arcs).getD i []).length ≤ 4096 := by rw [Gr.table_get hin]; have := Gr.succs_len arcs (i : Nat); omega
    have hre := RowS.ints hri (by simp only [maxSl]; omega) (fun x hx => by rw [Gr.table_get hin] at hx; have := hok _ (Gr.mem_succs.1 hx); simp only at this; unfold I64; omega)
    refine ⟨[vs.getD i undef], ⟨_, rfl, by simpa [List.getD_eq_getElem?_getD, hi] using hre⟩, fun j u hj => ?_⟩
    match j, hj with
    | 0, hj =>
      obtain rfl : vs.getD i undef = u := by simpa using hj
      obtain ⟨_, hs⟩ := hro
      rcases hs with ⟨h0, _⟩ | ⟨g, cap, cur, h0, h2, h3, h4, h5, h6⟩
      · cases h0
      · obtain ⟨rfl, rfl⟩ : b1 = g ∧ n = cap := by simpa using h0
        refine ⟨cur, 25, (0, 0), ?_⟩
        rw [show i * Rep.sz (List Int) + 0 = i from Nat.mul_one i, at_mk]
        refine ⟨h2, rfl, ?_⟩
        have hv : (cur.toList.take (n * 1))[i]? = some (vs.getD i undef) := by rw [h6]; exact getD_some hiv
        simp only [List.getElem?_take] at hv
        split at hv
        · rw [← hv, Array.getElem?_toList]
        · cases hv

set_option maxHeartbeats 400000 in
theorem vis_c {X : Type} (S : X → Cls) (R : Nat → X → Prop) (l : List Int) {Φ : Hp} {nv : Value} {b fid : Nat} {capt : Array Value} {v : Int} {xss : List (List Int)} (hΦ : ∀ x w, (S x).p w → Hp.le Φ (hp w)) (hpc : PCell Φ ⟨b, 0, none⟩ nv) (hr : RepSl Φ xss nv)
    (h0 : 0 ≤ v) (hv : v.toNat < xss.length) (hl : xss.getD v.toNat [] = l) (hown : Own Try.prog fid)
    (hstep : ∀ k x, k < l.length → R k x → ∀ w, (S x).p w → Calls Try.prog fid (#[.int .i64 (l.getD k 0)] ++ capt) w fun e w' => ∃ y : {x : X // R (k + 1) x}, e = .returned (.tuple #[]) ∧ (S y.1).p w')
    (x : X) (hR : R 0 x) (w : World) (hw : (S x).p w) : Calls Try.prog 34 #[.int .i64 v, .func (.func fid) #[] capt, .pointer (some ⟨b, 0, none⟩)] w fun e w' => ∃ y : {x : X // R l.length x}, e = .returned (.tuple #[]) ∧ (S y.1).p w' := by
  refine calls_of_AW (args := [.int .i64 v, (.func (.func fid) #[] capt), .pointer (some (⟨b, 0, none⟩))]) Try.func34 rfl (Nat.le_of_ble_eq_true rfl) (S x) hw ?_
  show AW Try.prog 20 [] _ _ _ [(0, .int .i64 v), (1, (.func (.func fid) #[] capt)), (2, .pointer (some (⟨b, 0, none⟩)))] _
  obtain ⟨sv, hsr, hsc⟩ := hr.sub hv
  rw [hl] at hsr
  have hml : l.length * 8 ≤ 140737488355328 := hsr.max
  refine AW.seq ?_
  refine AW.region ?_
  refine RW.q (v := nv) rfl (q_load rfl Try.underlying45 rfl (Cell.of hpc (hΦ _))) ?_
  refine RW.q (v := .int .i64 v) rfl (q_move rfl) ?_
  refine RW.q (v := .pointer (some (Value.at nv (v.toNat * 1)))) rfl (q_indexAddr rfl rfl hr.sl Try.underlying45 sz25 (by omega) (by omega) rfl) ?_
  refine RW.q (v := sv) rfl (q_load rfl Try.underlying25 rfl (Cell.of hsc (hΦ _))) ?_
  refine RW.q (v := .int .i64 ((l.length : Nat) : Int)) rfl (q_len_sl rfl hsr.sl Try.underlying25) ?_
  refine RW.q (v := .int .i64 0) rfl (q_move rfl) ?_
  refine RW.nil ?_
  refine Post.then_n ?_
  refine AW.block ?_
  refine AW.loop (fun s J m => ∃ (k : Nat), ∃ (x : X), s = [(1, (.func (.func fid) #[] capt)), (10, sv), (11, .int .i64 ((l.length : Nat) : Int)), (12, .int .i64 (k : Int))] ∧ J = S x ∧ m = l.length - k ∧ (k ≤ l.length) ∧ (R k x)) (s0 := _) (J1 := _) (m0 := _) ⟨0, x, rfl, rfl, rfl, (by omega), hR⟩ ⟨rfl, rfl, rfl, rfl, trivial⟩ (fun _ h => h) ?_
  rintro _ _ _ _ ⟨k, x, rfl, rfl, rfl, hk, hR⟩
  refine AW.seq ?_
  refine AW.region ?_
  refine RW.q (v := .bool (decide ((k : Int) < ((l.length : Nat) : Int)))) rfl (q_lss rfl rfl) ?_
  refine RW.nil ?_
  refine Post.then_n ?_
  refine AW.seq ?_
  refine AW.cond (b := decide ((k : Int) < ((l.length : Nat) : Int))) rfl (fun hc1 => ?_) (fun hc1 => ?_)
  · simp [-List.getD_eq_getElem?_getD] at hc1
    refine AW.skip ?_
    refine Post.then_n ?_
    refine AW.seq ?_
    refine AW.block ?_
    refine AW.seq ?_
    refine AW.region ?_
    refine RW.q (v := .pointer (some (Value.at sv (k * 1)))) rfl (q_indexAddr rfl rfl hsr.sl Try.underlying25 sz3 (by omega) (by omega) rfl) ?_
    refine RW.q (v := .int .i64 (l.getD k 0)) rfl (q_load rfl Try.underlying3 rfl (Cell.repIntJ (hΦ _) hsr (by omega))) ?_
    refine RW.q (v := .int .i64 (l.getD k 0)) rfl (q_assign rfl) ?_
    refine RW.nil ?_
    refine Post.then_n ?_
    refine AW.region ?_
    refine RW.q (v := (.func (.func fid) #[] capt)) rfl (q_move rfl) ?_
    refine RW.q (v := .int .i64 (l.getD k 0)) rfl (q_move rfl) ?_
    refine RW.eff (fun x : {x : X // R (k + 1) x} => .tuple #[]) (fun x => S x.1) rfl (e_call (V := fun _ : {x : X // R (k + 1) x} => .tuple #[]) (J' := fun y => S y.1) hown rfl (by simp [ev, fr]) (hstep k x hc1 hR)) ?_
    rintro ⟨x1, hR1⟩
    refine RW.nil ?_
    refine Post.blk_n (Post.then_n ?_)
    refine AW.region ?_
    refine RW.q (v := .int .i64 ((k + 1 : Nat) : Int)) rfl (q_add rfl rfl (by omega) (by unfold I64; omega)) ?_
    refine RW.q (v := .int .i64 ((k + 1 : Nat) : Int)) rfl (q_move rfl) ?_
    refine RW.nil ?_
    exact Post.back (s' := _) (J' := _) (m' := _) (by omega) ⟨k + 1, x1, rfl, rfl, rfl, (by omega), hR1⟩ ⟨rfl, rfl, rfl, rfl, trivial⟩ (fun _ h => h)
  · simp [-List.getD_eq_getElem?_getD] at hc1
    refine AW.exit ?_
    refine Post.then_x (Post.then_x (Post.blk_hit ?_))
    refine fin_none (J' := S x) rfl rfl (fun _ h => h) (fun w' hw' => ⟨⟨x, ?_⟩, rfl, hw'⟩)
    rwa [show k = l.length by omega] at hR

end Go.Proofs.Ytjkoojeampaeeaa
