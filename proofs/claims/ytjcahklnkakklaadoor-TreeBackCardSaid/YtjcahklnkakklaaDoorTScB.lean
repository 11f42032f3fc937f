/- lex.Scan returns the tokens, or the offset at which there is none. Conditions: those of each theorem. -/
import Derived.Test.YtjcahklnkakklaaDoorTScA
import Derived.Test.YtjcahklnkakklaaDoorTRndS
import Derived.Shelf.Abstract
namespace Go.Proofs.YtjcahklnkakklaaDoor
open Go Go.K Go.RowKit
set_option maxRecDepth 8000
set_option maxHeartbeats 1000000
attribute [local irreducible] AW RW DW Post Qt
theorem tokens_c (w : World) (Φ : Hp) (hΦ : Hp.le Φ (hp w)) {l : List UInt8} :
  Calls Tryd.prog 24 #[.string (bs l)] w (RetS Φ w fun r Ψ => ∃ B1, r = .func (.func 39) #[] #[.pointer (some ⟨B1, 0, none⟩)] ∧ PCell Ψ ⟨B1, 0, none⟩ (.string (bs l))) := by
 refine calls_of_AW (args := [.string (bs l)]) Tryd.func24 rfl (Nat.le_of_ble_eq_true rfl) (St ⟨w, Φ, []⟩ Φ []) (StP.init w Φ hΦ []) ?_
 show AW Tryd.prog 4 [] _ _ _ [(0, .string (bs l))] _
 refine AW.seq (AW.region (RW.eff _ _ rfl (e_box (v := .string (bs l)) rfl) ?_))
 intro b1
 refine g5 ?_
 refine RW.q (v := .func (.func 39) #[] #[.pointer (some ⟨b1, 0, none⟩)]) rfl (q_makeFunc rfl rfl) ?_
 refine g4 ?_
 exact fin_rep rfl rfl rfl (fun w' hw => ⟨b1, rfl, _, _, _, blk_ext hw 0 rfl, rfl, rfl⟩)
set_option maxRecDepth 8000 in
set_option maxHeartbeats 2000000 in
theorem Scan_c (w : World) (Φ : Hp) (hΦ : Hp.le Φ (hp w)) {l : List UInt8} (hl : l.length ≤ maxLen) :
  Calls Tryd.prog 14 #[.string (bs l)] w (RetS Φ w fun r Ψ => ∃ v, r = .tuple #[v, iV (Lx.scan l).2.1, iV (Lx.scan l).2.2] ∧ RepSl Ψ (Lx.scan l).1 v) := by
 refine callsIn_wide.1 (callsIn_of_wp_marks (n := 3) Tryd.func14 rfl trivial ?_ rfl)
 generalize hR : RetS Φ w (fun r Ψ => ∃ v, r = .tuple #[v, iV (Lx.scan l).2.1, iV (Lx.scan l).2.2] ∧ RepSl Ψ (Lx.scan l).1 v) = R
 have hfin : ∀ (Ψ : Hp) (C : List Chunk) (v : Value) (w' : World), StP ⟨w, Φ, []⟩ Ψ C w' → RepSl (Go.K.ext Φ w.heap.size w') (Lx.scan l).1 v → R (.returned (.tuple #[v, iV (Lx.scan l).2.1, iV (Lx.scan l).2.2])) w' := fun Ψ C v w' h1 h2 => by
  rw [← hR]; exact ⟨_, rfl, h1.below rfl, v, rfl, h2⟩
 have hLO : ¬ LetsOut (bodyPostM Fence.wide 3 Tryd.prog Tryd.f14 R) := fun ⟨_, _, h⟩ => by
  have h' : R .outgrown _ := h
  rw [← hR] at h'
  obtain ⟨v, hv, _⟩ := h'
  cases hv
 refine (?_ : AI Fence.wide 3 Tryd.prog 24 [] _ (bodyPostM Fence.wide 3 Tryd.prog Tryd.f14 R) (fun _ => undef) (List.map (fun p => (p.2, p.1)) [Value.string (bs l)].zipIdx) (St ⟨w, Φ, []⟩ Φ [])) _ w (rel_init (Nat.le_of_ble_eq_true rfl)) (StP.init w Φ hΦ [])
 show AI _ _ Tryd.prog 24 [] _ _ _ [(0, .string (bs l))] _
 refine AI.seq (AI.region rfl hLO ?_)
 refine RW.alc rfl fun b1 => ?_
 refine RW.alc rfl fun b2 => ?_
 refine RW.alc rfl fun b3 => ?_
 refine g1 ?_
 refine PI.qn0 (PI.then_n (AI.seq (AI.seq (AI.region rfl hLO ?_))))
 refine g1 ?_
 refine RW.q rfl (q_lenS (l := l) rfl uT9) ?_
 refine g2 ?_
 refine PI.qn0 (PI.then_n (AI.cond rfl (fun hc => ?_) fun hc => ?_))
 ·
  have hc : 65536 < l.length := by have := of_decide_eq_true hc; omega
  have hsc : Lx.scan l = ([], 8, 0) := by unfold Lx.scan; rw [if_pos hc]
  refine AI.seq (AI.region rfl hLO ?_)
  refine g4 ?_
  refine PI.qn0 (PI.then_n (AI.ret (Post.then_r ?_)))
  refine fin_M0 (vs := [.slice none 0 0, iV 8, iV 0]) rfl ⟨.one rfl (Cell.blk 2 rfl rfl), .one rfl (Cell.blk 1 rfl rfl), .one rfl (Cell.blk 0 rfl rfl), trivial⟩ rfl (fun w' hw => ?_)
  have := hfin _ _ nS w' hw (by rw [hsc]; exact repSl_nil)
  rw [hsc] at this
  exact this
 have hc : l.length ≤ 65536 := by have := of_decide_eq_false hc; omega
 refine AI.skip (PI.then_n (AI.seq (AI.region rfl hLO ?_)))
 refine RW.alc rfl fun b4 => ?_
 refine g1 ?_
 refine PI.qn0 (PI.then_n (AI.seq (AI.seq (AI.region rfl hLO ?_))))
 refine g1 ?_
 refine RW.eff _ _ rfl (e_callS (T := fun r Ψ => ∃ B1, r = .func (.func 39) #[] #[.pointer (some ⟨B1, 0, none⟩)] ∧ PCell Ψ ⟨B1, 0, none⟩ (.string (bs l))) (args := #[.string (bs l)]) own24 rfl rfl (fun w1 hw1 => tokens_c w1 Φ hw1.phi)) ?_
 rintro ⟨⟨r0, Ψ⟩, ⟨B1, hr0, hpc⟩, hlΨ⟩
 replace hr0 : r0 = .func (.func 39) #[] #[.pointer (some ⟨B1, 0, none⟩)] := hr0
 replace hpc : PCell Ψ ⟨B1, 0, none⟩ (.string (bs l)) := hpc
 subst hr0
 refine g1 ?_
 refine PI.qn0 (PI.then_n (AI.block ?_))
 intro a w2 ha hw2
 replace hw2 : StP ⟨w, Φ, []⟩ Ψ [.blk b4 35 [.slice none 0 0], .blk b3 3 [iV 0], .blk b2 31 [iV 0], .blk b1 35 [.slice none 0 0]] w2 := hw2
 have hb1 : b1 < w2.heap.size := hw2.fp_lt (by simp [Chunk.blk])
 have hb2 : b2 < w2.heap.size := hw2.fp_lt (by simp [Chunk.blk])
 have hb3 : b3 < w2.heap.size := hw2.fp_lt (by simp [Chunk.blk])
 have hb4 : b4 < w2.heap.size := hw2.fp_lt (by simp [Chunk.blk])
 have hΨ : ∀ b o, Ψ b = some o → b < w2.heap.size := fun b o h => (Array.getElem?_eq_some_iff.1 (hw2.phi b o h)).1
 have hB1 : B1 < w2.heap.size := by obtain ⟨cs, T, fz, h1, _⟩ := hpc; exact hΨ _ _ h1
 have hB1n : Ψ B1 ≠ none := by
  obtain ⟨cs, T, fz, h1, _⟩ := hpc
  have h1 : Ψ B1 = some _ := h1
  rw [h1]; simp
 have cel0 : ∀ v : Value, Celled [.blk b4 35 [v], .blk b3 3 [iV 0], .blk b2 31 [iV 0], .blk b1 35 [.slice none 0 0]] := fun v => celled_blk (celled_blk (celled_blk (celled_blk celled_nil)))
 have cel1 : ∀ v u : Value, Celled [.blk b4 35 [v], .blk b3 3 [iV 0], .blk b2 31 [iV 0], .blk b1 35 [u]] := fun v u => celled_blk (celled_blk (celled_blk (celled_blk celled_nil)))
 have hadef : a.defers = [] := ha.defers
 refine wpIn_rangeFunc_ownH (F := Fence.wide) (n := 3) (α := Tkn l.length) rfl (by omega) (gf := 39) (lb := #[.pointer (some ⟨B1, 0, none⟩)]) (by rw [ha.eval]; rfl) trivial (enters_of Tryd.func39 (by kernel_rfl) rfl)
  (tokens1_stops hc (w := w2) (PCell.mono hpc hw2.phi)) (fun h k => k.trans h) (fun W l' o o' h1 h2 _ _ => World.putObj_heap_other (by omega)) (Below.refl _ _) (fun _ => rfl)
  (fun pre W => (∀ x ∈ pre, x.1.2 = true) ∧ w2.heap.size ≤ W.heap.size ∧ ∃ v, IsSl v pre.length ∧ StP ⟨w, Φ, []⟩ Ψ (.row v 39 3 pre.length (flat (pre.map (·.1.1))) :: [.blk b4 35 [v], .blk b3 3 [iV 0], .blk b2 31 [iV 0], .blk b1 35 [.slice none 0 0]]) W)
  (fun c pre W => c = .ret ∧ ∃ (p0 : List (Tkn l.length)) (x : Tkn l.length), pre = p0 ++ [x] ∧ x.1.2 = false ∧ StP ⟨w, Φ, []⟩ Ψ [.blk b3 3 [iV x.1.1.At], .blk b2 31 [iV 2], .blk b1 35 [.slice none 0 0]] W)
  (fun pre W W' row hs hg hr => ⟨hs.1, Nat.le_trans hs.2.1 hg.size, by obtain ⟨_, _, v, h1, h2⟩ := hs; exact ⟨v, h1, StP.turned (celled_row (cel0 v)) h2 hg hr hw2.size hΨ⟩⟩)
  (fun c pre W W' row hs hg hr => by obtain ⟨h0, p0, x, h1, h2, h3⟩ := hs; exact ⟨h0, p0, x, h1, h2, StP.turned (celled_blk (celled_blk (celled_blk celled_nil))) h3 hg hr hw2.size hΨ⟩)
  ⟨fun _ h => (by cases h), Nat.le_refl _, .slice none 0 0, isSl_nil, addNil hw2⟩
  (fun x a' W => ∃ Bx f', w2.heap.size ≤ Bx ∧ W.heap[Bx]? = some (.cells [iV x.1.1.Kind, .string (bs x.1.1.Text), iV x.1.1.At].toArray 39 (0, 0)) ∧ (∀ v, W.heap[b4]? = some (.cells [v].toArray 35 (0, 0)) → Bx ∉ blks v) ∧ (∃ o, W.heap[b4]? = some o ∧ o.isCells = true) ∧
   Rel 24 [] (fr f' [(7, .bool x.1.2), (6, .pointer (some ⟨Bx, 0, none⟩)), (2, .pointer (some ⟨b1, 0, none⟩)), (3, .pointer (some ⟨b2, 0, none⟩)), (4, .pointer (some ⟨b3, 0, none⟩)), (5, .pointer (some ⟨b4, 0, none⟩))]) a')
  (fun x a' _ W W' row hs hg hr => by
   obtain ⟨Bx, f', h1, h2, h3, ⟨o4, h4, h4c⟩, h5⟩ := hs
   have k1 : W'.heap[Bx]? = W.heap[Bx]? := hg.block Bx (Array.getElem?_eq_some_iff.1 h2).1 (fun e => by obtain ⟨_, o, h6, h7⟩ := hr Bx e.symm; rw [h2] at h6; cases h6; cases h7)
   have k2 : W'.heap[b4]? = W.heap[b4]? := hg.block b4 (Array.getElem?_eq_some_iff.1 h4).1 (fun e => by obtain ⟨_, o, h6, h7⟩ := hr b4 e.symm; rw [h4] at h6; cases h6; rw [h7] at h4c; cases h4c)
   exact ⟨Bx, f', h1, k1.trans h2, fun v hv => h3 v (k2 ▸ hv), ⟨o4, k2.trans h4, h4c⟩, h5⟩)
  ?assign ?body ?done ?stop
 case assign =>
  rintro l0 pre x W K ⟨hall, hsz, v, hsl, hst⟩ hK
  have hact : ({ tmps := (#[13, 14].zip (encT x)).foldl (fun t (p : Nat × Value) => t.setIfInBounds p.1 p.2) a.tmps, defers := [] } : Act) = (a.put (some 13) (tkV x.1.1)).put (some 14) (.bool x.1.2) := by
   simp [Act.put, hadef, encT]
  refine hact ▸ ?_
  have hrel := (ha.put (d := 13) rfl (tkV x.1.1)).put (d := 14) rfl (.bool x.1.2)
  refine (?_ : AI (Fence.wide.inRound l0) (3 - 1 - 1) Tryd.prog 24 [] _ (Exit.then K (fun _ _ _ => False)) _ _ (St ⟨W, Ψ, own (.row v 39 3 pre.length (flat (pre.map (·.1.1))) :: [.blk b4 35 [v], .blk b3 3 [iV 0], .blk b2 31 [iV 0], .blk b1 35 [.slice none 0 0]])⟩ Ψ (.row v 39 3 pre.length (flat (pre.map (·.1.1))) :: [.blk b4 35 [v], .blk b3 3 [iV 0], .blk b2 31 [iV 0], .blk b1 35 [.slice none 0 0]]))) _ W hrel hst.rebase
  have hLO2 : ¬ LetsOut (Exit.then K (fun _ _ _ => False)) := fun ⟨_, _, h⟩ => h
  refine AI.seq (AI.region rfl hLO2 ?_)
  refine RW.alc rfl fun Bx => ?_
  refine RW.stA (cs' := [iV x.1.1.Kind, .string (bs x.1.1.Text), iV x.1.1.At]) 0 rfl rfl rfl rfl rfl rfl ?_
  refine g1 ?_
  refine PI.qn0 (PI.then_n (AI.region rfl hLO2 ?_))
  refine g2 ?_
  refine PI.qn0 ?_
  refine Post.mk fun a3 W3 ha3 hW3 => ?_
  replace hW3 : StP ⟨W, Ψ, own (.row v 39 3 pre.length (flat (pre.map (·.1.1))) :: [.blk b4 35 [v], .blk b3 3 [iV 0], .blk b2 31 [iV 0], .blk b1 35 [.slice none 0 0]])⟩ Ψ (.blk Bx 39 [iV x.1.1.Kind, .string (bs x.1.1.Text), iV x.1.1.At] :: .row v 39 3 pre.length (flat (pre.map (·.1.1))) :: [.blk b4 35 [v], .blk b3 3 [iV 0], .blk b2 31 [iV 0], .blk b1 35 [.slice none 0 0]]) W3 := hW3
  have hBx : W.heap.size ≤ Bx := by
   rcases (hW3.away Bx (by simp [Chunk.blk])).2 with h1 | h1
   ·
    exact h1
   ·
    obtain ⟨c, hc1, hc2⟩ := List.mem_flatMap.1 h1
    exact absurd hc2 ((List.pairwise_cons.1 hW3.sep).1 c hc1 Bx (by simp [Chunk.blk]))
  have hs0 : W3.heap[Bx]? = some (.cells [iV x.1.1.Kind, .string (bs x.1.1.Text), iV x.1.1.At].toArray 39 (0, 0)) := hW3.sat (.blk Bx 39 [iV x.1.1.Kind, .string (bs x.1.1.Text), iV x.1.1.At]) (List.mem_cons_self ..)
  have hs4 : W3.heap[b4]? = some (.cells [v].toArray 35 (0, 0)) := hW3.sat (.blk b4 35 [v]) (by simp)
  obtain ⟨f1, ha4⟩ : ∃ f1, Rel 24 [] (fr f1 [(7, .bool x.1.2), (6, .pointer (some ⟨Bx, 0, none⟩)), (2, .pointer (some ⟨b1, 0, none⟩)), (3, .pointer (some ⟨b2, 0, none⟩)), (4, .pointer (some ⟨b3, 0, none⟩)), (5, .pointer (some ⟨b4, 0, none⟩))]) a3 := ⟨_, Rel.of_allIn ha3 ⟨rfl, rfl, rfl, rfl, rfl, rfl, trivial⟩⟩
  refine hK a3 W3 ((StP.keeps (celled_row (cel0 v)) hst hW3).from _) (hst.aside hW3 (by omega) hB1n) ⟨hall, Nat.le_trans hsz hW3.size, v, hsl, (hst.join hW3).drop (List.sublist_cons_self ..)⟩ ⟨Bx, f1, by omega, hs0, fun v' hv' => ?_, ⟨_, hs4, rfl⟩, ha4⟩
  rw [hs4] at hv'
  obtain rfl : v = v' := by simpa using hv'
  exact fun hb => (List.pairwise_cons.1 hW3.sep).1 (.row v 39 3 pre.length (flat (pre.map (·.1.1)))) (List.mem_cons_self ..) Bx (by simp [Chunk.blk]) hb
 case body =>
  rintro l0 pre x a' W hlt ⟨r, hr⟩ ⟨hall, hsz, v, hsl, hst⟩ ⟨Bx, f', hBx, hcx, hnx, _, hrel⟩ hlen
  have hs4 : W.heap[b4]? = some (.cells [v].toArray 35 (0, 0)) := hst.sat (.blk b4 35 [v]) (by simp)
  have hst2 : StP ⟨w, Φ, []⟩ Ψ (.blk Bx 39 [iV x.1.1.Kind, .string (bs x.1.1.Text), iV x.1.1.At] :: .row v 39 3 pre.length (flat (pre.map (·.1.1))) :: [.blk b4 35 [v], .blk b3 3 [iV 0], .blk b2 31 [iV 0], .blk b1 35 [.slice none 0 0]]) W := hst.add hcx (by
    have := hnx v hs4
    simp only [own, List.flatMap_cons, List.flatMap_nil, List.mem_append, List.not_mem_nil, or_false, not_or]
    refine ⟨this, ?_, ?_, ?_, ?_⟩ <;> (simp only [Chunk.blk, List.mem_singleton]; omega)) (by
    cases h : Ψ Bx with
    | none => rfl
    | some o => have := hΨ _ _ h; omega) (by have := hw2.size; simp only at this ⊢; omega)
  have cel : Celled (.blk Bx 39 [iV x.1.1.Kind, .string (bs x.1.1.Text), iV x.1.1.At] :: .row v 39 3 pre.length (flat (pre.map (·.1.1))) :: [.blk b4 35 [v], .blk b3 3 [iV 0], .blk b2 31 [iV 0], .blk b1 35 [.slice none 0 0]]) := celled_blk (celled_row (cel0 v))
  have hLO2 : ¬ LetsOut (ownPostG w2.heap.size (fun W W' : World => W'.heap[B1]? = W.heap[B1]?)
   (fun (pre : List (Tkn l.length)) W => (∀ x ∈ pre, x.1.2 = true) ∧ w2.heap.size ≤ W.heap.size ∧ ∃ v, IsSl v pre.length ∧ StP ⟨w, Φ, []⟩ Ψ (.row v 39 3 pre.length (flat (pre.map (·.1.1))) :: [.blk b4 35 [v], .blk b3 3 [iV 0], .blk b2 31 [iV 0], .blk b1 35 [.slice none 0 0]]) W)
   (fun c (pre : List (Tkn l.length)) W => c = .ret ∧ ∃ (p0 : List (Tkn l.length)) (x : Tkn l.length), pre = p0 ++ [x] ∧ x.1.2 = false ∧ StP ⟨w, Φ, []⟩ Ψ [.blk b3 3 [iV x.1.1.At], .blk b2 31 [iV 2], .blk b1 35 [.slice none 0 0]] W) (pre ++ [x]) W) := fun ⟨_, _, h⟩ => h
  refine (?_ : AI (Fence.wide.inRound l0) (3 - 1 - 1) Tryd.prog 24 [] _ _ _ _ (St ⟨W, Ψ, own (.blk Bx 39 [iV x.1.1.Kind, .string (bs x.1.1.Text), iV x.1.1.At] :: .row v 39 3 pre.length (flat (pre.map (·.1.1))) :: [.blk b4 35 [v], .blk b3 3 [iV 0], .blk b2 31 [iV 0], .blk b1 35 [.slice none 0 0]])⟩ Ψ (.blk Bx 39 [iV x.1.1.Kind, .string (bs x.1.1.Text), iV x.1.1.At] :: .row v 39 3 pre.length (flat (pre.map (·.1.1))) :: [.blk b4 35 [v], .blk b3 3 [iV 0], .blk b2 31 [iV 0], .blk b1 35 [.slice none 0 0]]))) a' W hrel hst2.rebase
  refine AI.block (AI.seq (AI.seq (AI.region rfl hLO2 ?_)))
  refine g3 ?_
  refine PI.qn0 (PI.then_n (AI.cond rfl (fun hk => ?_) fun hk => ?_))
  ·
   have hk : x.1.2 = false := by simpa using hk
   refine AI.seq (AI.draw (J0 := St ⟨W, Ψ, own (.blk Bx 39 [iV x.1.1.Kind, .string (bs x.1.1.Text), iV x.1.1.At] :: .row v 39 3 pre.length (flat (pre.map (·.1.1))) :: [.blk b4 35 [v], .blk b3 3 [iV 0], .blk b2 31 [iV 0], .blk b1 35 [.slice none 0 0]])⟩ Ψ [.blk Bx 39 [iV x.1.1.Kind, .string (bs x.1.1.Text), iV x.1.1.At]]) [.q, .q, .e, .e, .e] [0, 1, 2, 3, 4] hmix (by kernel_rfl) rfl hLO2 ?_)
   refine DW.q (fun _ h => StP.drop h (.cons_cons _ (List.nil_sublist _))) rfl (qa_fa0 rfl) ?_
   refine DW.q (fun _ h => StP.drop h (.cons_cons _ (List.nil_sublist _))) rfl (qa_ld rfl (Cell.blk 0 rfl rfl)) ?_
   refine DW.effn (fun _ _ h => StP.drop h (.cons_cons _ (List.nil_sublist _))) (e_sto 5 rfl rfl rfl rfl rfl rfl) ?_
   refine DW.effn (fun _ _ h => StP.drop h (.cons_cons _ (List.nil_sublist _))) (e_sto 4 rfl rfl rfl rfl rfl rfl) ?_
   refine DW.effn (fun _ _ h => StP.drop h (.cons_cons _ (List.nil_sublist _))) (e_sto 3 rfl rfl rfl rfl rfl rfl) ?_
   refine DW.nil (PI.then_n (AI.ret (Post.then_r (Post.blk_r (Post.mk fun a3 W3 ha3 hW3 => ?_)))))
   exact ⟨(StP.keeps cel hst2 hW3).from _, rfl, pre, x, rfl, hk, (hst2.join hW3).drop (.cons _ (.cons _ (.cons _ (List.Sublist.refl _))))⟩
  ·
   have hk : x.1.2 = true := by simpa using hk
   refine AI.skip (PI.then_n (AI.region rfl hLO2 ?_))
   refine g2 ?_
   refine RW.eff (fun b5 : Nat => (.slice (some ⟨b5, 0, none⟩) 1 1)) (fun b5 => St ⟨W, Ψ, own (.blk Bx 39 [iV x.1.1.Kind, .string (bs x.1.1.Text), iV x.1.1.At] :: .row v 39 3 pre.length (flat (pre.map (·.1.1))) :: [.blk b4 35 [v], .blk b3 3 [iV 0], .blk b2 31 [iV 0], .blk b1 35 [.slice none 0 0]])⟩ Ψ (.row (.slice (some ⟨b5, 0, none⟩) 1 1) 39 3 1 [iV x.1.1.Kind, .string (bs x.1.1.Text), iV x.1.1.At] :: .blk Bx 39 [iV x.1.1.Kind, .string (bs x.1.1.Text), iV x.1.1.At] :: .row v 39 3 pre.length (flat (pre.map (·.1.1))) :: [.blk b4 35 [v], .blk b3 3 [iV 0], .blk b2 31 [iV 0], .blk b1 35 [.slice none 0 0]])) rfl (e_buildSlice (vals := [(0, .agg [iV x.1.1.Kind, .string (bs x.1.1.Text), iV x.1.1.At].toArray)]) (cells := [iV x.1.1.Kind, .string (bs x.1.1.Text), iV x.1.1.At]) uT35 inf39 rfl rfl rfl (by kernel_rfl) rfl) ?_
   intro b5
   refine RW.eff (fun xv : {vq : Value // IsSl vq (pre.length + 1)} => xv.1) (fun xv => St ⟨W, Ψ, own (.blk Bx 39 [iV x.1.1.Kind, .string (bs x.1.1.Text), iV x.1.1.At] :: .row v 39 3 pre.length (flat (pre.map (·.1.1))) :: [.blk b4 35 [v], .blk b3 3 [iV 0], .blk b2 31 [iV 0], .blk b1 35 [.slice none 0 0]])⟩ Ψ (.row (.slice (some ⟨b5, 0, none⟩) 1 1) 39 3 1 [iV x.1.1.Kind, .string (bs x.1.1.Text), iV x.1.1.At] :: .blk Bx 39 [iV x.1.1.Kind, .string (bs x.1.1.Text), iV x.1.1.At] :: .row xv.1 39 3 (pre.length + 1) ((flat (pre.map (·.1.1))) ++ [iV x.1.1.Kind, .string (bs x.1.1.Text), iV x.1.1.At]) :: [.blk b4 35 [v], .blk b3 3 [iV 0], .blk b2 31 [iV 0], .blk b1 35 [.slice none 0 0]])) rfl (e_append 2 rfl rfl rfl uT35 inf39 rfl rfl rfl (Cells.row0 0 rfl) rfl (by omega) (by omega) (fun _ => rfl)) ?_
   rintro ⟨va, hva⟩
   refine RW.effn (J' := St ⟨W, Ψ, own (.blk Bx 39 [iV x.1.1.Kind, .string (bs x.1.1.Text), iV x.1.1.At] :: .row v 39 3 pre.length (flat (pre.map (·.1.1))) :: [.blk b4 35 [v], .blk b3 3 [iV 0], .blk b2 31 [iV 0], .blk b1 35 [.slice none 0 0]])⟩ Ψ (.row (.slice (some ⟨b5, 0, none⟩) 1 1) 39 3 1 [iV x.1.1.Kind, .string (bs x.1.1.Text), iV x.1.1.At] :: .blk Bx 39 [iV x.1.1.Kind, .string (bs x.1.1.Text), iV x.1.1.At] :: .row va 39 3 (pre.length + 1) ((flat (pre.map (·.1.1))) ++ [iV x.1.1.Kind, .string (bs x.1.1.Text), iV x.1.1.At]) :: [.blk b4 35 [va], .blk b3 3 [iV 0], .blk b2 31 [iV 0], .blk b1 35 [.slice none 0 0]])) (e_storeSl (v := va) 3 rfl rfl rfl hva sz35 rfl rfl rfl) ?_
   refine g1 ?_
   refine PI.qn0 (Post.blk_n (Post.mk fun a3 W3 ha3 hW3 => ?_))
   have hj := hst2.join hW3
   refine ⟨(StP.keeps cel hst2 hW3).from _, hst2.aside hW3 (by omega) hB1n, fun y hy => ?_, Nat.le_trans hsz hW3.size, va, by simpa using hva, ?_⟩
   ·
    rcases List.mem_append.1 hy with hy | hy
    ·
     exact hall y hy
    ·
     rw [List.mem_singleton.1 hy]; exact hk
   ·
    have e1 : flat ((pre ++ [x]).map (·.1.1)) = (flat (pre.map (·.1.1))) ++ [iV x.1.1.Kind, .string (bs x.1.1.Text), iV x.1.1.At] := by simp [flat]; rfl
    have e2 : (pre ++ [x]).length = pre.length + 1 := by simp
    rw [e1, e2]
    exact hj.drop (.cons _ (.cons _ (List.Sublist.refl _)))
 case done =>
  rintro Dd (xs : List (Tkn l.length)) W hD hS ⟨hall, hsz, v, hsl, hst⟩ hdef
  have hno : Dd ∉ own (.row v 39 3 xs.length (flat (xs.map fun t : Tkn l.length => t.1.1)) :: [.blk b4 35 [v], .blk b3 3 [iV 0], .blk b2 31 [iV 0], .blk b1 35 [.slice none 0 0]]) := fun h => by
   obtain ⟨cs, T, fz, h1⟩ := own_cells (celled_row (cel0 v)) hst h
   rw [hdef] at h1; cases h1
  have hlt : Dd < W.heap.size := (Array.getElem?_eq_some_iff.1 hdef).1
  have hlen : xs.length ≤ 65537 := by
   have h1 : (xs.map (·.1)).length ≤ l.length + 1 := by rw [hS]; exact Lx.stm_len _ _ _
   rw [List.length_map] at h1; omega
  have hscan : Lx.scan l = (xs.map (·.1.1), 0, 0) := by
   rw [Lx.scan_ok hc (fun y hy => by rw [← hS] at hy; obtain ⟨z, hz, rfl⟩ := List.mem_map.1 hy; exact hall z hz), ← hS, List.map_map]; rfl
  refine Post.go (J := St ⟨W, Ψ, own (.row v 39 3 xs.length (flat (xs.map fun t : Tkn l.length => t.1.1)) :: [.blk b4 35 [v], .blk b3 3 [iV 0], .blk b2 31 [iV 0], .blk b1 35 [.slice none 0 0]])⟩ Ψ (.row v 39 3 xs.length (flat (xs.map fun t : Tkn l.length => t.1.1)) :: [.blk b4 35 [v], .blk b3 3 [iV 0], .blk b2 31 [iV 0], .blk b1 35 [.slice none 0 0]])) ?_ ha.col hst.rebase
  refine Post.blk_n (PI.then_n (AI.seq (AI.region rfl hLO ?_)))
  refine g1 ?_
  refine RW.effn (J' := St ⟨W, Ψ, own (.row v 39 3 xs.length (flat (xs.map fun t : Tkn l.length => t.1.1)) :: [.blk b4 35 [v], .blk b3 3 [iV 0], .blk b2 31 [iV 0], .blk b1 35 [.slice none 0 0]])⟩ Ψ (.row v 39 3 xs.length (flat (xs.map fun t : Tkn l.length => t.1.1)) :: [.blk b4 35 [v], .blk b3 3 [iV 0], .blk b2 31 [iV 0], .blk b1 35 [v]])) (e_storeSl (v := v) 4 rfl rfl rfl hsl sz35 rfl rfl rfl) ?_
  refine g3 ?_
  refine PI.qn0 (PI.then_n (AI.ret ?_))
  refine fin_M1 (J' := St ⟨w, Φ, []⟩ Ψ (.row v 39 3 xs.length (flat (xs.map fun t : Tkn l.length => t.1.1)) :: [.blk b4 35 [v], .blk b3 3 [iV 0], .blk b2 31 [iV 0], .blk b1 35 [v]])) (vs := [v, iV 0, iV 0]) (fun w' hw' => (hw'.old Dd hlt hno).trans hdef)
   (fun w' hw' => StP.turned (celled_row (cel1 v v)) (hst.join hw') (grownBy_putObj' w' Dd _) (fun r e => by cases e; exact ⟨hD, _, (hw'.old Dd hlt hno).trans hdef, rfl⟩) hw2.size hΨ)
   rfl ⟨.one rfl (Cell.blk 4 rfl rfl), .one rfl (Cell.blk 3 rfl rfl), .one rfl (Cell.blk 2 rfl rfl), trivial⟩ rfl (fun w' hw => ?_)
  have := hfin _ _ v w' hw (by
   rw [hscan]
   exact RowS.repE evenTok (row_ext hw 0 rfl) (by simp) (by simp only [maxSl]; show xs.length * 32 ≤ _; omega) (fun y hy => by
    obtain ⟨z, hz, rfl⟩ := List.mem_map.1 hy
    obtain ⟨h1, h2, h3, h4, h5⟩ := z.2
    refine ⟨?_, ?_, ?_⟩ <;> (try unfold I64) <;> (try simp only [maxLen]) <;> omega))
  rw [hscan] at this
  exact this
 case stop =>
  rintro Dd c pre W hD hSp ⟨rfl, p0, x, rfl, hx, hst⟩ hdef
  have hno : Dd ∉ own [.blk b3 3 [iV x.1.1.At], .blk b2 31 [iV 2], .blk b1 35 [.slice none 0 0]] := fun h => by
   obtain ⟨cs, T, fz, h1⟩ := own_cells (celled_blk (celled_blk (celled_blk celled_nil))) hst h
   rw [hdef] at h1; cases h1
  have hlt : Dd < W.heap.size := (Array.getElem?_eq_some_iff.1 hdef).1
  have hscan : Lx.scan l = ([], 2, x.1.1.At) := Lx.scan_bad hc (y := x.1) (hSp.subset (List.mem_map.2 ⟨x, by simp, rfl⟩)) hx
  refine (?_ : AI Fence.wide 3 Tryd.prog 24 [{ target := .collected Dd, args := #[] }] _ _ _ _ (St ⟨W, Ψ, own [.blk b3 3 [iV x.1.1.At], .blk b2 31 [iV 2], .blk b1 35 [.slice none 0 0]]⟩ Ψ [.blk b3 3 [iV x.1.1.At], .blk b2 31 [iV 2], .blk b1 35 [.slice none 0 0]])) _ W ha.col hst.rebase
  refine AI.ret (Post.blk_r (Post.then_r ?_))
  refine fin_M1 (J' := St ⟨w, Φ, []⟩ Ψ [.blk b3 3 [iV x.1.1.At], .blk b2 31 [iV 2], .blk b1 35 [.slice none 0 0]]) (vs := [.slice none 0 0, iV 2, iV x.1.1.At]) (fun w' hw' => (hw'.old Dd hlt hno).trans hdef)
   (fun w' hw' => StP.turned (celled_blk (celled_blk (celled_blk celled_nil))) (hst.join hw') (grownBy_putObj' w' Dd _) (fun r e => by cases e; exact ⟨hD, _, (hw'.old Dd hlt hno).trans hdef, rfl⟩) hw2.size hΨ)
   rfl ⟨.one rfl (Cell.blk 2 rfl rfl), .one rfl (Cell.blk 1 rfl rfl), .one rfl (Cell.blk 0 rfl rfl), trivial⟩ rfl (fun w' hw => ?_)
  have := hfin _ _ nS w' hw (by rw [hscan]; exact repSl_nil)
  rw [hscan] at this
  exact this
end Go.Proofs.YtjcahklnkakklaaDoor
