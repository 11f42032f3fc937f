/- Lemmas. Conditions: those of each theorem. -/
import Derived.Test.YtnfmjfheciihjaaGreatDoorYScA
import Derived.Test.YtnfmjfheciihjaaGreatDoorYRndS
import Derived.Shelf.Abstract
set_option maxRecDepth 8000
set_option maxHeartbeats 16000000
namespace Go.Proofs.YtnfmjfheciihjaaGreatDoor
open Go Go.K Go.RowKit
attribute [local irreducible] AW RW DW Post Qt
abbrev tkC1 (t : Bt.Token) : List Value := [iV t.Kind, .string (bs t.Text), iV t.At]
theorem tokens_c (w : World) (Φ : Hp) (hΦ : Hp.le Φ (hp w)) {l : List UInt8} :
  Calls pg 61 #[.string (bs l)] w (RetS Φ w fun r Ψ => ∃ B1, r = .func (.func 92) #[] #[.pointer (some ⟨B1, 0, none⟩)] ∧ PCell Ψ ⟨B1, 0, none⟩ (.string (bs l))) := by
 refine calls_of_AW (args := [.string (bs l)]) Tryz.func61 rfl (lBT rfl) (St ⟨w, Φ, []⟩ Φ []) (StP.init w Φ hΦ []) ?_
 show AW pg 4 [] _ _ _ [(0, .string (bs l))] _
 refine AW.seq (AW.region (RW.eff _ _ rfl (e_box (v := .string (bs l)) rfl) ?_))
 intro b1
 refine g5 ?_
 refine RW.q (v := .func (.func 92) #[] #[.pointer (some ⟨b1, 0, none⟩)]) rfl (q_makeFunc rfl rfl) ?_
 refine g4 ?_
 exact fin_rep rfl rfl rfl (fun w' hw => ⟨b1, rfl, _, _, _, blk_ext hw 0 rfl, rfl, rfl⟩)
theorem Scan_c (w : World) (Φ : Hp) (hΦ : Hp.le Φ (hp w)) {l : List UInt8} (_ : l.length ≤ maxLen) :
  Calls pg 28 #[.string (bs l)] w (RetS Φ w fun r Ψ => ∃ v, r = .tuple #[v, iV (Lx.scan l).2.1, iV (Lx.scan l).2.2] ∧ RepSl Ψ (Lx.scan l).1 v) := by
 refine callsIn_wide.1 (callsIn_of_wp_marks (n := 3) Tryz.func28 rfl trivial ?_ rfl)
 generalize hR : RetS Φ w (fun r Ψ => ∃ v, r = .tuple #[v, iV (Lx.scan l).2.1, iV (Lx.scan l).2.2] ∧ RepSl Ψ (Lx.scan l).1 v) = R
 have hfin : ∀ (Ψ : Hp) (C : List Chunk) (v : Value) (w' : World), StP ⟨w, Φ, []⟩ Ψ C w' → RepSl (Go.K.ext Φ w.heap.size w') (Lx.scan l).1 v → R (.returned (.tuple #[v, iV (Lx.scan l).2.1, iV (Lx.scan l).2.2])) w' := fun Ψ C v w' h1 h2 => by
  rw [← hR]; exact ⟨_, rfl, h1.below rfl, v, rfl, h2⟩
 have hLO : ¬ LetsOut (bodyPostM Fence.wide 3 pg Tryz.f28 R) := fun ⟨_, _, h⟩ => by
  have h' : R .outgrown _ := h
  rw [← hR] at h'
  obtain ⟨v, hv, _⟩ := h'
  cases hv
 refine (?_ : AI Fence.wide 3 pg 24 [] _ (bodyPostM Fence.wide 3 pg Tryz.f28 R) (fun _ => undef) (List.map (fun p => (p.2, p.1)) [Value.string (bs l)].zipIdx) (St ⟨w, Φ, []⟩ Φ [])) _ w (rel_init (lBT rfl)) (StP.init w Φ hΦ [])
 show AI _ _ pg 24 [] _ _ _ [(0, .string (bs l))] _
 refine AI.seq (AI.region rfl hLO ?_)
 refine RW.alc rfl fun b1 => ?_
 refine RW.alc rfl fun b2 => ?_
 refine RW.alc rfl fun b3 => ?_
 refine g1 ?_
 refine PI.qn0 (PI.then_n (AI.seq (AI.seq (AI.region rfl hLO ?_))))
 refine g1 ?_
 refine RW.q rfl (q_lenS (l := l) rfl uT9) ?_
 refine g2 ?_
 refine PI.qn0 (PI.then_n (AI.cond rfl (fun hc => ?_) fun hc => ?_))
 ·
  have hc : 65536 < l.length := by have := odT hc; omega
  have hsc : Lx.scan l = ([], 8, 0) := by unfold Lx.scan; rw [if_pos hc]
  refine AI.seq (AI.region rfl hLO ?_)
  refine g4 ?_
  refine PI.qn0 (PI.then_n (AI.ret (Post.then_r ?_)))
  refine fin_M0 (vs := [nS, iV 8, iV 0]) rfl ⟨.one rfl (Cell.blk 2 rfl rfl), .one rfl (Cell.blk 1 rfl rfl), .one rfl (Cell.blk 0 rfl rfl), trivial⟩ rfl (fun w' hw => ?_)
  have := hfin _ _ nS w' hw (by rw [hsc]; exact repSl_nil)
  rw [hsc] at this
  exact this
 have hc : l.length ≤ 65536 := by have := odF hc; omega
 refine AI.skip (PI.then_n (AI.seq (AI.region rfl hLO ?_)))
 refine RW.alc rfl fun b4 => ?_
 refine g1 ?_
 refine PI.qn0 (PI.then_n (AI.seq (AI.seq (AI.region rfl hLO ?_))))
 refine g1 ?_
 refine RW.eff _ _ rfl (e_callS (T := fun r Ψ => ∃ B1, r = .func (.func 92) #[] #[.pointer (some ⟨B1, 0, none⟩)] ∧ PCell Ψ ⟨B1, 0, none⟩ (.string (bs l))) (args := #[.string (bs l)]) oK rfl rfl (fun w1 hw1 => tokens_c w1 Φ hw1.phi)) ?_
 rintro ⟨⟨r0, Ψ⟩, ⟨B1, hr0, hpc⟩, hlΨ⟩
 replace hr0 : r0 = .func (.func 92) #[] #[.pointer (some ⟨B1, 0, none⟩)] := hr0
 replace hpc : PCell Ψ ⟨B1, 0, none⟩ (.string (bs l)) := hpc
 subst hr0
 refine g1 ?_
 refine PI.qn0 (PI.then_n (AI.block ?_))
 intro a w2 ha hw2
 replace hw2 : StP ⟨w, Φ, []⟩ Ψ [.blk b4 95 [nS], .blk b3 3 [iV 0], .blk b2 43 [iV 0], .blk b1 95 [nS]] w2 := hw2
 have hb1 : b1 < w2.heap.size := hw2.fp_lt (by simp [Chunk.blk])
 have hb2 : b2 < w2.heap.size := hw2.fp_lt (by simp [Chunk.blk])
 have hb3 : b3 < w2.heap.size := hw2.fp_lt (by simp [Chunk.blk])
 have hb4 : b4 < w2.heap.size := hw2.fp_lt (by simp [Chunk.blk])
 have hΨ : ∀ b o, Ψ b = some o → b < w2.heap.size := fun b o h => (Array.getElem?_eq_some_iff.1 (hw2.phi b o h)).1
 have hB1 : B1 < w2.heap.size := by obtain ⟨cs, T, fz, h1, _⟩ := hpc; exact hΨ _ _ h1
 have hB1n : Ψ B1 ≠ none := by
  obtain ⟨cs, T, fz, h1, _⟩ := hpc
  have h1 : Ψ B1 = some _ := h1
  rw [h1]; simp
 have cel0 : ∀ v : Value, Celled [.blk b4 95 [v], .blk b3 3 [iV 0], .blk b2 43 [iV 0], .blk b1 95 [nS]] := fun v => celled_blk (celled_blk (celled_blk (celled_blk celled_nil)))
 have cel1 : ∀ v u : Value, Celled [.blk b4 95 [v], .blk b3 3 [iV 0], .blk b2 43 [iV 0], .blk b1 95 [u]] := fun v u => celled_blk (celled_blk (celled_blk (celled_blk celled_nil)))
 have hadef : a.defers = [] := ha.defers
 refine wpIn_rangeFunc_ownH (F := Fence.wide) (n := 3) (α := Tkn l.length) rfl (by omega) (gf := 92) (lb := #[.pointer (some ⟨B1, 0, none⟩)]) (by rw [ha.eval]; rfl) trivial (enters_of Tryz.func92 (by kernel_rfl) rfl)
  (tokens1_stops hc (w := w2) (PCell.mono hpc hw2.phi)) (fun h k => k.trans h) (fun W l' o o' h1 h2 _ _ => World.putObj_heap_other (by omega)) (Below.refl _ _) (fun _ => rfl)
  (fun pre W => (∀ x ∈ pre, x.1.2 = true) ∧ w2.heap.size ≤ W.heap.size ∧ ∃ v, IsSl v pre.length ∧ StP ⟨w, Φ, []⟩ Ψ (.row v 134 3 pre.length (flat (pre.map (·.1.1))) :: [.blk b4 95 [v], .blk b3 3 [iV 0], .blk b2 43 [iV 0], .blk b1 95 [nS]]) W)
  (fun c pre W => c = .ret ∧ ∃ (p0 : List (Tkn l.length)) (x : Tkn l.length), pre = p0 ++ [x] ∧ x.1.2 = false ∧ StP ⟨w, Φ, []⟩ Ψ [.blk b3 3 [iV x.1.1.At], .blk b2 43 [iV 2], .blk b1 95 [nS]] W)
  (fun pre W W' row hs hg hr => ⟨hs.1, Nat.le_trans hs.2.1 hg.size, by obtain ⟨_, _, v, h1, h2⟩ := hs; exact ⟨v, h1, StP.turned (celled_row (cel0 v)) h2 hg hr hw2.size hΨ⟩⟩)
  (fun c pre W W' row hs hg hr => by obtain ⟨h0, p0, x, h1, h2, h3⟩ := hs; exact ⟨h0, p0, x, h1, h2, StP.turned (celled_blk (celled_blk (celled_blk celled_nil))) h3 hg hr hw2.size hΨ⟩)
  ⟨fun _ h => (by cases h), Nat.le_refl _, nS, isSl_nil, addNil hw2⟩
  (fun x a' W => ∃ Bx f', w2.heap.size ≤ Bx ∧ W.heap[Bx]? = some (.cells (tkC1 x.1.1).toArray 134 (0, 0)) ∧ (∀ v, W.heap[b4]? = some (.cells [v].toArray 95 (0, 0)) → Bx ∉ blks v) ∧ (∃ o, W.heap[b4]? = some o ∧ o.isCells = true) ∧
   Rel 24 [] (fr f' [(7, .bool x.1.2), (6, .pointer (some ⟨Bx, 0, none⟩)), (2, .pointer (some ⟨b1, 0, none⟩)), (3, .pointer (some ⟨b2, 0, none⟩)), (4, .pointer (some ⟨b3, 0, none⟩)), (5, .pointer (some ⟨b4, 0, none⟩))]) a')
  (fun x a' _ W W' row hs hg hr => by
   obtain ⟨Bx, f', h1, h2, h3, ⟨o4, h4, h4c⟩, h5⟩ := hs
   have k1 : W'.heap[Bx]? = W.heap[Bx]? := hg.block Bx (Array.getElem?_eq_some_iff.1 h2).1 (fun e => by obtain ⟨_, o, h6, h7⟩ := hr Bx e.symm; rw [h2] at h6; cases h6; cases h7)
   have k2 : W'.heap[b4]? = W.heap[b4]? := hg.block b4 (Array.getElem?_eq_some_iff.1 h4).1 (fun e => by obtain ⟨_, o, h6, h7⟩ := hr b4 e.symm; rw [h4] at h6; cases h6; rw [h7] at h4c; cases h4c)
   exact ⟨Bx, f', h1, k1.trans h2, fun v hv => h3 v (k2 ▸ hv), ⟨o4, k2.trans h4, h4c⟩, h5⟩)
  ?assign ?body ?done ?stop
 case assign =>
  rintro l0 pre x W K ⟨hall, hsz, v, hsl, hst⟩ hK
  have hact : ({ tmps := (#[13, 14].zip (encT x)).foldl (fun t (p : Nat × Value) => t.setIfInBounds p.1 p.2) a.tmps, defers := [] } : Act) = (a.put (some 13) (tkV x.1.1)).put (some 14) (.bool x.1.2) := by
   simp [Act.put, hadef, encT]
  refine hact ▸ ?_
  have hrel := (ha.put (d := 13) rfl (tkV x.1.1)).put (d := 14) rfl (.bool x.1.2)
  refine (?_ : AI (Fence.wide.inRound l0) (3 - 1 - 1) pg 24 [] _ (Exit.then K (fun _ _ _ => False)) _ _ (St ⟨W, Ψ, own (.row v 134 3 pre.length (flat (pre.map (·.1.1))) :: [.blk b4 95 [v], .blk b3 3 [iV 0], .blk b2 43 [iV 0], .blk b1 95 [nS]])⟩ Ψ (.row v 134 3 pre.length (flat (pre.map (·.1.1))) :: [.blk b4 95 [v], .blk b3 3 [iV 0], .blk b2 43 [iV 0], .blk b1 95 [nS]]))) _ W hrel hst.rebase
  have hLO2 : ¬ LetsOut (Exit.then K (fun _ _ _ => False)) := fun ⟨_, _, h⟩ => h
  refine AI.seq (AI.region rfl hLO2 ?_)
  refine RW.alc rfl fun Bx => ?_
  refine RW.stA (cs' := (tkC1 x.1.1)) 0 rfl rfl rfl rfl rfl rfl ?_
  refine g1 ?_
  refine PI.qn0 (PI.then_n (AI.region rfl hLO2 ?_))
  refine g2 ?_
  refine PI.qn0 (Post.mk fun a3 W3 ha3 hW3 => ?_)
  replace hW3 : StP ⟨W, Ψ, own (.row v 134 3 pre.length (flat (pre.map (·.1.1))) :: [.blk b4 95 [v], .blk b3 3 [iV 0], .blk b2 43 [iV 0], .blk b1 95 [nS]])⟩ Ψ (.blk Bx 134 (tkC1 x.1.1) :: .row v 134 3 pre.length (flat (pre.map (·.1.1))) :: [.blk b4 95 [v], .blk b3 3 [iV 0], .blk b2 43 [iV 0], .blk b1 95 [nS]]) W3 := hW3
  have hBx : W.heap.size ≤ Bx := by
   rcases (hW3.away Bx (by simp [Chunk.blk])).2 with h1 | h1
   ·
    exact h1
   ·
    obtain ⟨c, hc1, hc2⟩ := List.mem_flatMap.1 h1
    exact absurd hc2 ((List.pairwise_cons.1 hW3.sep).1 c hc1 Bx (by simp [Chunk.blk]))
  have hs0 : W3.heap[Bx]? = some (.cells (tkC1 x.1.1).toArray 134 (0, 0)) := hW3.sat (.blk Bx 134 (tkC1 x.1.1)) (List.mem_cons_self ..)
  have hs4 : W3.heap[b4]? = some (.cells [v].toArray 95 (0, 0)) := hW3.sat (.blk b4 95 [v]) (by simp)
  obtain ⟨f1, ha4⟩ : ∃ f1, Rel 24 [] (fr f1 [(7, .bool x.1.2), (6, .pointer (some ⟨Bx, 0, none⟩)), (2, .pointer (some ⟨b1, 0, none⟩)), (3, .pointer (some ⟨b2, 0, none⟩)), (4, .pointer (some ⟨b3, 0, none⟩)), (5, .pointer (some ⟨b4, 0, none⟩))]) a3 := ⟨_, Rel.of_allIn ha3 ⟨rfl, rfl, rfl, rfl, rfl, rfl, trivial⟩⟩
  refine hK a3 W3 ((StP.keeps (celled_row (cel0 v)) hst hW3).from _) (hst.aside hW3 (by omega) hB1n) ⟨hall, Nat.le_trans hsz hW3.size, v, hsl, (hst.join hW3).drop (List.sublist_cons_self ..)⟩ ⟨Bx, f1, by omega, hs0, fun v' hv' => ?_, ⟨_, hs4, rfl⟩, ha4⟩
  rw [hs4] at hv'
  obtain rfl : v = v' := by simpa using hv'
  exact fun hb => (List.pairwise_cons.1 hW3.sep).1 (.row v 134 3 pre.length (flat (pre.map (·.1.1)))) (List.mem_cons_self ..) Bx (by simp [Chunk.blk]) hb
 case body =>
  rintro l0 pre x a' W hlt ⟨r, hr⟩ ⟨hall, hsz, v, hsl, hst⟩ ⟨Bx, f', hBx, hcx, hnx, _, hrel⟩ hlen
  have hs4 : W.heap[b4]? = some (.cells [v].toArray 95 (0, 0)) := hst.sat (.blk b4 95 [v]) (by simp)
  have hst2 : StP ⟨w, Φ, []⟩ Ψ (.blk Bx 134 (tkC1 x.1.1) :: .row v 134 3 pre.length (flat (pre.map (·.1.1))) :: [.blk b4 95 [v], .blk b3 3 [iV 0], .blk b2 43 [iV 0], .blk b1 95 [nS]]) W := hst.add hcx (by
    have := hnx v hs4
    simp only [own, List.flatMap_cons, List.flatMap_nil, List.mem_append, List.not_mem_nil, or_false, not_or]
    refine ⟨this, ?_, ?_, ?_, ?_⟩ <;> (simp only [Chunk.blk, List.mem_singleton]; omega)) (by
    cases h : Ψ Bx with
    | none => rfl
    | some o => have := hΨ _ _ h; omega) (by have := hw2.size; simp only at this ⊢; omega)
  have cel : Celled (.blk Bx 134 (tkC1 x.1.1) :: .row v 134 3 pre.length (flat (pre.map (·.1.1))) :: [.blk b4 95 [v], .blk b3 3 [iV 0], .blk b2 43 [iV 0], .blk b1 95 [nS]]) := celled_blk (celled_row (cel0 v))
  have hLO2 : ¬ LetsOut (ownPostG w2.heap.size (fun W W' : World => W'.heap[B1]? = W.heap[B1]?)
   (fun (pre : List (Tkn l.length)) W => (∀ x ∈ pre, x.1.2 = true) ∧ w2.heap.size ≤ W.heap.size ∧ ∃ v, IsSl v pre.length ∧ StP ⟨w, Φ, []⟩ Ψ (.row v 134 3 pre.length (flat (pre.map (·.1.1))) :: [.blk b4 95 [v], .blk b3 3 [iV 0], .blk b2 43 [iV 0], .blk b1 95 [nS]]) W)
   (fun c (pre : List (Tkn l.length)) W => c = .ret ∧ ∃ (p0 : List (Tkn l.length)) (x : Tkn l.length), pre = p0 ++ [x] ∧ x.1.2 = false ∧ StP ⟨w, Φ, []⟩ Ψ [.blk b3 3 [iV x.1.1.At], .blk b2 43 [iV 2], .blk b1 95 [nS]] W) (pre ++ [x]) W) := fun ⟨_, _, h⟩ => h
  refine (?_ : AI (Fence.wide.inRound l0) (3 - 1 - 1) pg 24 [] _ _ _ _ (St ⟨W, Ψ, own (.blk Bx 134 (tkC1 x.1.1) :: .row v 134 3 pre.length (flat (pre.map (·.1.1))) :: [.blk b4 95 [v], .blk b3 3 [iV 0], .blk b2 43 [iV 0], .blk b1 95 [nS]])⟩ Ψ (.blk Bx 134 (tkC1 x.1.1) :: .row v 134 3 pre.length (flat (pre.map (·.1.1))) :: [.blk b4 95 [v], .blk b3 3 [iV 0], .blk b2 43 [iV 0], .blk b1 95 [nS]]))) a' W hrel hst2.rebase
  refine AI.block (AI.seq (AI.seq (AI.region rfl hLO2 ?_)))
  refine g3 ?_
  refine PI.qn0 (PI.then_n (AI.cond rfl (fun hk => ?_) fun hk => ?_))
  ·
   have hk : x.1.2 = false := by simpa using hk
   refine AI.seq (AI.draw (J0 := St ⟨W, Ψ, own (.blk Bx 134 (tkC1 x.1.1) :: .row v 134 3 pre.length (flat (pre.map (·.1.1))) :: [.blk b4 95 [v], .blk b3 3 [iV 0], .blk b2 43 [iV 0], .blk b1 95 [nS]])⟩ Ψ [.blk Bx 134 (tkC1 x.1.1)]) [.q, .q, .e, .e, .e] [0, 1, 2, 3, 4] hmix (by kernel_rfl) rfl hLO2 ?_)
   refine DW.q (fun _ h => StP.drop h (.cons_cons _ (List.nil_sublist _))) rfl (qa_fa0 rfl) (DW.q (fun _ h => StP.drop h (.cons_cons _ (List.nil_sublist _))) rfl (qa_ld rfl (Cell.blk 0 rfl rfl)) (DW.effn (fun _ _ h => StP.drop h (.cons_cons _ (List.nil_sublist _))) (e_sto 5 rfl rfl rfl rfl rfl rfl) (DW.effn (fun _ _ h => StP.drop h (.cons_cons _ (List.nil_sublist _))) (e_sto 4 rfl rfl rfl rfl rfl rfl) (DW.effn (fun _ _ h => StP.drop h (.cons_cons _ (List.nil_sublist _))) (e_sto 3 rfl rfl rfl rfl rfl rfl) (DW.nil (PI.then_n (AI.ret (Post.then_r (Post.blk_r (Post.mk fun a3 W3 ha3 hW3 => ?_))))))))))
   exact ⟨(StP.keeps cel hst2 hW3).from _, rfl, pre, x, rfl, hk, (hst2.join hW3).drop (.cons _ (.cons _ (.cons _ (List.Sublist.refl _))))⟩
  ·
   have hk : x.1.2 = true := by simpa using hk
   refine AI.skip (PI.then_n (AI.region rfl hLO2 ?_))
   refine g2 ?_
   refine RW.eff (fun b5 : Nat => (.slice (some ⟨b5, 0, none⟩) 1 1)) (fun b5 => St ⟨W, Ψ, own (.blk Bx 134 (tkC1 x.1.1) :: .row v 134 3 pre.length (flat (pre.map (·.1.1))) :: [.blk b4 95 [v], .blk b3 3 [iV 0], .blk b2 43 [iV 0], .blk b1 95 [nS]])⟩ Ψ (.row (.slice (some ⟨b5, 0, none⟩) 1 1) 134 3 1 (tkC1 x.1.1) :: .blk Bx 134 (tkC1 x.1.1) :: .row v 134 3 pre.length (flat (pre.map (·.1.1))) :: [.blk b4 95 [v], .blk b3 3 [iV 0], .blk b2 43 [iV 0], .blk b1 95 [nS]])) rfl (e_buildSlice (vals := [(0, .agg (tkC1 x.1.1).toArray)]) (cells := (tkC1 x.1.1)) uT95 inf134 rfl rfl rfl (by kernel_rfl) rfl) ?_
   intro b5
   refine RW.eff (fun xv : {vq : Value // IsSl vq (pre.length + 1)} => xv.1) (fun xv => St ⟨W, Ψ, own (.blk Bx 134 (tkC1 x.1.1) :: .row v 134 3 pre.length (flat (pre.map (·.1.1))) :: [.blk b4 95 [v], .blk b3 3 [iV 0], .blk b2 43 [iV 0], .blk b1 95 [nS]])⟩ Ψ (.row (.slice (some ⟨b5, 0, none⟩) 1 1) 134 3 1 (tkC1 x.1.1) :: .blk Bx 134 (tkC1 x.1.1) :: .row xv.1 134 3 (pre.length + 1) ((flat (pre.map (·.1.1))) ++ (tkC1 x.1.1)) :: [.blk b4 95 [v], .blk b3 3 [iV 0], .blk b2 43 [iV 0], .blk b1 95 [nS]])) rfl (e_append 2 rfl rfl rfl uT95 inf134 rfl rfl rfl (Cells.row0 0 rfl) rfl (by omega) (by omega) (fun _ => rfl)) ?_
   rintro ⟨va, hva⟩
   refine RW.effn (J' := St ⟨W, Ψ, own (.blk Bx 134 (tkC1 x.1.1) :: .row v 134 3 pre.length (flat (pre.map (·.1.1))) :: [.blk b4 95 [v], .blk b3 3 [iV 0], .blk b2 43 [iV 0], .blk b1 95 [nS]])⟩ Ψ (.row (.slice (some ⟨b5, 0, none⟩) 1 1) 134 3 1 (tkC1 x.1.1) :: .blk Bx 134 (tkC1 x.1.1) :: .row va 134 3 (pre.length + 1) ((flat (pre.map (·.1.1))) ++ (tkC1 x.1.1)) :: [.blk b4 95 [va], .blk b3 3 [iV 0], .blk b2 43 [iV 0], .blk b1 95 [nS]])) (e_storeSl (v := va) 3 rfl rfl rfl hva sz95 rfl rfl rfl) ?_
   refine g1 ?_
   refine PI.qn0 (Post.blk_n (Post.mk fun a3 W3 ha3 hW3 => ?_))
   have hj := hst2.join hW3
   refine ⟨(StP.keeps cel hst2 hW3).from _, hst2.aside hW3 (by omega) hB1n, fun y hy => ?_, Nat.le_trans hsz hW3.size, va, by simpa using hva, ?_⟩
   ·
    rcases List.mem_append.1 hy with hy | hy
    ·
     exact hall y hy
    ·
     rw [List.mem_singleton.1 hy]; exact hk
   ·
    have e1 : flat ((pre ++ [x]).map (·.1.1)) = (flat (pre.map (·.1.1))) ++ (tkC1 x.1.1) := by simp [flat]; rfl
    have e2 : (pre ++ [x]).length = pre.length + 1 := by simp
    rw [e1, e2]
    exact hj.drop (.cons _ (.cons _ (List.Sublist.refl _)))
 case done =>
  rintro Dd (xs : List (Tkn l.length)) W hD hS ⟨hall, hsz, v, hsl, hst⟩ hdef
  have hno : Dd ∉ own (.row v 134 3 xs.length (flat (xs.map fun t : Tkn l.length => t.1.1)) :: [.blk b4 95 [v], .blk b3 3 [iV 0], .blk b2 43 [iV 0], .blk b1 95 [nS]]) := fun h => by
   obtain ⟨cs, T, fz, h1⟩ := own_cells (celled_row (cel0 v)) hst h
   rw [hdef] at h1; cases h1
  have hlt : Dd < W.heap.size := (Array.getElem?_eq_some_iff.1 hdef).1
  have hlen : xs.length ≤ 65537 := by
   have h1 : (xs.map (·.1)).length ≤ l.length + 1 := by rw [hS]; exact Lx.stm_len _ _ _
   rw [List.length_map] at h1; omega
  have hscan : Lx.scan l = (xs.map (·.1.1), 0, 0) := by
   rw [Lx.scan_ok hc (fun y hy => by rw [← hS] at hy; obtain ⟨z, hz, rfl⟩ := List.mem_map.1 hy; exact hall z hz), ← hS, List.map_map]; rfl
  refine Post.go (J := St ⟨W, Ψ, own (.row v 134 3 xs.length (flat (xs.map fun t : Tkn l.length => t.1.1)) :: [.blk b4 95 [v], .blk b3 3 [iV 0], .blk b2 43 [iV 0], .blk b1 95 [nS]])⟩ Ψ (.row v 134 3 xs.length (flat (xs.map fun t : Tkn l.length => t.1.1)) :: [.blk b4 95 [v], .blk b3 3 [iV 0], .blk b2 43 [iV 0], .blk b1 95 [nS]])) ?_ ha.col hst.rebase
  refine Post.blk_n (PI.then_n (AI.seq (AI.region rfl hLO ?_)))
  refine g1 ?_
  refine RW.effn (J' := St ⟨W, Ψ, own (.row v 134 3 xs.length (flat (xs.map fun t : Tkn l.length => t.1.1)) :: [.blk b4 95 [v], .blk b3 3 [iV 0], .blk b2 43 [iV 0], .blk b1 95 [nS]])⟩ Ψ (.row v 134 3 xs.length (flat (xs.map fun t : Tkn l.length => t.1.1)) :: [.blk b4 95 [v], .blk b3 3 [iV 0], .blk b2 43 [iV 0], .blk b1 95 [v]])) (e_storeSl (v := v) 4 rfl rfl rfl hsl sz95 rfl rfl rfl) ?_
  refine g3 ?_
  refine PI.qn0 (PI.then_n (AI.ret ?_))
  refine fin_M1 (J' := St ⟨w, Φ, []⟩ Ψ (.row v 134 3 xs.length (flat (xs.map fun t : Tkn l.length => t.1.1)) :: [.blk b4 95 [v], .blk b3 3 [iV 0], .blk b2 43 [iV 0], .blk b1 95 [v]])) (vs := [v, iV 0, iV 0]) (fun w' hw' => (hw'.old Dd hlt hno).trans hdef)
   (fun w' hw' => StP.turned (celled_row (cel1 v v)) (hst.join hw') (grownBy_putObj' w' Dd _) (fun r e => by cases e; exact ⟨hD, _, (hw'.old Dd hlt hno).trans hdef, rfl⟩) hw2.size hΨ)
   rfl ⟨.one rfl (Cell.blk 4 rfl rfl), .one rfl (Cell.blk 3 rfl rfl), .one rfl (Cell.blk 2 rfl rfl), trivial⟩ rfl (fun w' hw => ?_)
  have := hfin _ _ v w' hw (by
   rw [hscan]
   exact RowS.repE evenTok (row_ext hw 0 rfl) (by simp) (by simp only [maxSl]; show xs.length * 32 ≤ _; omega) (fun y hy => by
    obtain ⟨z, hz, rfl⟩ := List.mem_map.1 hy
    obtain ⟨h1, h2, h3, h4, h5⟩ := z.2
    refine ⟨?_, ?_, ?_⟩ <;> (try unfold I64) <;> (try simp only [maxLen]) <;> omega))
  rw [hscan] at this
  exact this
 case stop =>
  rintro Dd c pre W hD hSp ⟨rfl, p0, x, rfl, hx, hst⟩ hdef
  have hno : Dd ∉ own [.blk b3 3 [iV x.1.1.At], .blk b2 43 [iV 2], .blk b1 95 [nS]] := fun h => by
   obtain ⟨cs, T, fz, h1⟩ := own_cells (celled_blk (celled_blk (celled_blk celled_nil))) hst h
   rw [hdef] at h1; cases h1
  have hlt : Dd < W.heap.size := (Array.getElem?_eq_some_iff.1 hdef).1
  have hscan : Lx.scan l = ([], 2, x.1.1.At) := Lx.scan_bad hc (y := x.1) (hSp.subset (List.mem_map.2 ⟨x, by simp, rfl⟩)) hx
  refine (?_ : AI Fence.wide 3 pg 24 [{ target := .collected Dd, args := #[] }] _ _ _ _ (St ⟨W, Ψ, own [.blk b3 3 [iV x.1.1.At], .blk b2 43 [iV 2], .blk b1 95 [nS]]⟩ Ψ [.blk b3 3 [iV x.1.1.At], .blk b2 43 [iV 2], .blk b1 95 [nS]])) _ W ha.col hst.rebase
  refine AI.ret (Post.blk_r (Post.then_r ?_))
  refine fin_M1 (J' := St ⟨w, Φ, []⟩ Ψ [.blk b3 3 [iV x.1.1.At], .blk b2 43 [iV 2], .blk b1 95 [nS]]) (vs := [nS, iV 2, iV x.1.1.At]) (fun w' hw' => (hw'.old Dd hlt hno).trans hdef)
   (fun w' hw' => StP.turned (celled_blk (celled_blk (celled_blk celled_nil))) (hst.join hw') (grownBy_putObj' w' Dd _) (fun r e => by cases e; exact ⟨hD, _, (hw'.old Dd hlt hno).trans hdef, rfl⟩) hw2.size hΨ)
   rfl ⟨.one rfl (Cell.blk 2 rfl rfl), .one rfl (Cell.blk 1 rfl rfl), .one rfl (Cell.blk 0 rfl rfl), trivial⟩ rfl (fun w' hw => ?_)
  have := hfin _ _ nS w' hw (by rw [hscan]; exact repSl_nil)
  rw [hscan] at this
  exact this
theorem product_c (w : World) (Φ : Hp) (hΦ : Hp.le Φ (hp w)) {W : Nat} {l : List UInt8} {me : Un.Mea} (hW : W ≤ 1125899906842625) (hm : me ∈ Un.ms) (hl : l.length ≤ 9) (hd : ∀ b ∈ l, Un.isD b = true) :
  Calls pg 154 #[iV (W : Int), .string (bs l), .agg #[.string (bs me.1), iV (me.2.1 : Int), iV (me.2.2.1 : Int), iV (me.2.2.2 : Int)]] w fun e w' => e = .returned (.tuple #[iV (((Un.prod W l me).1 : Nat) : Int), .bool (Un.prod W l me).2]) ∧ Bel w.heap.size w w' := by
 refine calls_of_AW (args := [iV (W : Int), .string (bs l), .agg #[.string (bs me.1), iV (me.2.1 : Int), iV (me.2.2.1 : Int), iV (me.2.2.2 : Int)]]) Tryz.func154 rfl (lBT rfl) (St ⟨w, Φ, []⟩ Φ []) (StP.init w Φ hΦ []) ?_
 show AW pg 83 [] _ _ _ [(0, iV (W : Int)), (1, .string (bs l)), (2, .agg #[.string (bs me.1), iV (me.2.1 : Int), iV (me.2.2.1 : Int), iV (me.2.2.2 : Int)])] _
 have hw2 : W ≤ 1125899906842625 := hW
 obtain ⟨_, hn1, hn2, hd1, hd2, hdn⟩ := Un.ms_facts me hm
 have hvl : Un.val l < 10 ^ l.length := Un.val_lt hd
 have ht9 : 10 ^ l.length ≤ 10 ^ 9 := Nat.pow_le_pow_right (by omega) hl
 have ht1 : 1 ≤ 10 ^ l.length := Nat.pow_pos (by omega)
 have hvC : Un.valC l = Un.val l := by rw [Un.valC_eq]; unfold Un.M; omega
 refine g2 ?_
 refine RW.bxA rfl rfl fun b1 => ?_
 refine g11 ?_
 refine AW.cond rfl (fun hc1 => ?_) fun hc1 => ?_
 ·
  simp [-List.getD_eq_getElem?_getD] at hc1
  refine g8 ?_
  refine fin_out2 (v := iV 0) (u := .bool false) rfl rfl rfl rfl (fun w' hw => ?_)
  refine ⟨?_, hw.below rfl⟩
  rw [Un.prod_no (.inl (by unfold Un.M; omega))]
  rfl
 ·
  simp [-List.getD_eq_getElem?_getD] at hc1
  refine g11 ?_
  refine RW.q (v := iV (l.length : Int)) rfl (q_lenS (l := l) rfl uT9) ?_
  refine g4 ?_
  refine AW.loop (fun s J m => ∃ (k : Nat), s = [(0, iV (W : Int)), (1, .string (bs l)), (5, pV b1 0), (6, iV 0), (7, .bool false), (19, iV (l.length : Int)), (8, iV ((10 ^ (l.take k).length : Nat) : Int)), (20, iV (k : Int))] ∧ J = St ⟨w, Φ, []⟩ Φ [.blk b1 212 [.string (bs me.1), iV (me.2.1 : Int), iV (me.2.2.1 : Int), iV (me.2.2.2 : Int)]] ∧ m = l.length - k ∧ (k ≤ l.length)) (s0 := _) (J1 := _) (m0 := _) ⟨0, rfl, rfl, rfl, (by omega)⟩ ⟨rfl, rfl, rfl, rfl, rfl, rfl, rfl, rfl, trivial⟩ (fun _ h => h) ?_
  rintro _ _ _ _ ⟨k, rfl, rfl, rfl, hk⟩
  refine g6 ?_
  refine AW.cond rfl (fun hc2 => ?_) fun hc2 => ?_
  ·
   simp [-List.getD_eq_getElem?_getD] at hc2
   refine g4 ?_
   have ht8 : 10 ^ (l.take k).length ≤ 10 ^ 8 := Nat.pow_le_pow_right (by omega) (by rw [List.length_take]; omega)
   have hts : 10 ^ (l.take (k + 1)).length = 10 ^ (l.take k).length * 10 := by rw [List.length_take, List.length_take, ← Nat.pow_succ]; congr 1; omega
   refine g2 ?_
   refine RW.q (v := iV ((10 ^ (l.take (k + 1)).length : Nat) : Int)) rfl (q_as (v := iV (((10 ^ (l.take k).length : Nat) : Int) * 10)) (q_mul rfl rfl rfl (by unfold I64; omega)) (congrArg (Value.int .i64) (by rw [hts]; simp))) ?_
   refine g8 ?_
   exact Post.back (s' := _) (J' := _) (m' := _) (by omega) ⟨k + 1, rfl, rfl, rfl, (by omega)⟩ ⟨rfl, rfl, rfl, rfl, rfl, rfl, rfl, rfl, trivial⟩ (fun _ h => h)
  ·
   simp [-List.getD_eq_getElem?_getD] at hc2
   refine g6 ?_
   rw [show l.take k = l from List.take_of_length_le (by omega)]
   obtain ⟨T, hT⟩ : ∃ T, 10 ^ l.length = T := ⟨_, rfl⟩
   rw [hT] at hvl ht9 ht1 ⊢
   have hWT : W * T ≤ 1125899906842624 * 1000000000 := Nat.mul_le_mul (by omega) (by omega)
   obtain ⟨A, hA⟩ : ∃ A, W * T = A := ⟨_, rfl⟩
   rw [hA] at hWT
   obtain ⟨F, hF⟩ : ∃ F, Un.val l = F := ⟨_, rfl⟩
   rw [hF] at hvl hvC
   obtain ⟨nu, hnu⟩ : ∃ nu, me.2.2.1 = nu := ⟨_, rfl⟩
   obtain ⟨de, hde⟩ : ∃ de, me.2.2.2 = de := ⟨_, rfl⟩
   rw [hnu] at hn1 hn2 hdn
   rw [hde] at hd1 hd2 hdn
   have hN1 : (A % 18446744073709551616 + F) % 18446744073709551616 * nu ≤ 18446744073709551615 * 1000000000 := Nat.mul_le_mul (by omega) (by omega)
   have hN2 : (A / 18446744073709551616 + (A % 18446744073709551616 + F) / 18446744073709551616) * nu ≤ 65536 * 1000000000 := Nat.mul_le_mul (by omega) (by omega)
   have hD1 : T * de ≤ 1000000000 * 24 := Nat.mul_le_mul (by omega) (by omega)
   have hD0 : 1 * 1 ≤ T * de := Nat.mul_le_mul (by omega) (by omega)
   refine g2 ?_
   refine RW.q (v := .int .u64 (W : Int)) rfl (q_toU (r := W) rfl uT3 uT182 rfl (by omega)) ?_
   refine g1 ?_
   refine RW.q (v := .int .u64 (T : Int)) rfl (q_toU (r := T) rfl uT3 uT182 rfl (by omega)) (RW.q (v := .tuple #[.int .u64 ((W * T / 18446744073709551616 : Nat) : Int), .int .u64 ((W * T % 18446744073709551616 : Nat) : Int)]) rfl (q_call (args := #[.int .u64 (W : Int), .int .u64 (T : Int)]) oK rfl rfl (fun w1 hw1 => Mul64_c w1 (Go.K.hp w1) (Hp.le_refl _) (by omega) (by omega))) (RW.q rfl (q_move rfl) ?_))
   refine g7 ?_
   rw [hA]
   refine g3 ?_
   refine RW.q (v := iV (F : Int)) rfl (q_as (v := iV ((Un.valC l : Nat) : Int)) (q_call (args := #[.string (bs l)]) oK rfl rfl (fun w1 hw1 => value_c w1 (Go.K.hp w1) (Hp.le_refl _) (by omega) (by assumption))) (congrArg (Value.int .i64) (by rw [hvC]))) (RW.q (v := .int .u64 (F : Int)) rfl (q_toU (r := F) rfl uT3 uT182 rfl (by omega)) (RW.q (v := .tuple #[.int .u64 ((((A % 18446744073709551616) + F) % 18446744073709551616 : Nat) : Int), .int .u64 ((((A % 18446744073709551616) + F) / 18446744073709551616 : Nat) : Int)]) rfl (q_ext (e := add64Entry) (args := [.int .u64 ((A % 18446744073709551616 : Nat) : Int), .int .u64 (F : Int), .int .u64 ((0 : Nat) : Int)]) Tryz.func157 rfl rfl (by kernel_rfl) (by kernel_rfl) rfl rfl (add64_run _ _)) (RW.q rfl (q_move rfl) ?_)))
   refine g10 ?_
   refine RW.q (v := .int .u64 (((A / 18446744073709551616) + (((A % 18446744073709551616) + F) / 18446744073709551616) : Nat) : Int)) rfl (q_addU (a := (A / 18446744073709551616)) (b := (((A % 18446744073709551616) + F) / 18446744073709551616)) rfl rfl (Nat.mod_eq_of_lt (by omega))) ?_
   refine g7 ?_
   refine RW.q (v := iV (nu : Int)) rfl (q_as (v := iV (me.2.2.1 : Int)) (q_load rfl uT3 rfl (Cell.blk 0 rfl rfl)) (congrArg (Value.int .i64) (by rw [hnu]))) (RW.q (v := .int .u64 (nu : Int)) rfl (q_toU (r := nu) rfl uT3 uT182 rfl (by omega)) (RW.q (v := .tuple #[.int .u64 (((((A % 18446744073709551616) + F) % 18446744073709551616) * nu / 18446744073709551616 : Nat) : Int), .int .u64 (((((A % 18446744073709551616) + F) % 18446744073709551616) * nu % 18446744073709551616 : Nat) : Int)]) rfl (q_call (args := #[.int .u64 ((((A % 18446744073709551616) + F) % 18446744073709551616 : Nat) : Int), .int .u64 (nu : Int)]) oK rfl rfl (fun w1 hw1 => Mul64_c w1 (Go.K.hp w1) (Hp.le_refl _) (by omega) (by omega))) (RW.q (v := .tuple #[.int .u64 (((((A % 18446744073709551616) + F) % 18446744073709551616) * nu / 18446744073709551616 : Nat) : Int), .int .u64 (((((A % 18446744073709551616) + F) % 18446744073709551616) * nu % 18446744073709551616 : Nat) : Int)]) rfl (q_move rfl) ?_)))
   refine g10 ?_
   refine RW.q (v := iV (nu : Int)) rfl (q_as (v := iV (me.2.2.1 : Int)) (q_load rfl uT3 rfl (Cell.blk 0 rfl rfl)) (congrArg (Value.int .i64) (by rw [hnu]))) (RW.q (v := .int .u64 (nu : Int)) rfl (q_toU (r := nu) rfl uT3 uT182 rfl (by omega)) (RW.q (v := .int .u64 ((((A / 18446744073709551616) + (((A % 18446744073709551616) + F) / 18446744073709551616)) * nu : Nat) : Int)) rfl (q_mulU (a := ((A / 18446744073709551616) + (((A % 18446744073709551616) + F) / 18446744073709551616))) (b := nu) rfl rfl (Nat.mod_eq_of_lt (by omega))) ?_))
   refine g1 ?_
   refine RW.q (v := .int .u64 (((((A / 18446744073709551616) + (((A % 18446744073709551616) + F) / 18446744073709551616)) * nu) + ((((A % 18446744073709551616) + F) % 18446744073709551616) * nu / 18446744073709551616) : Nat) : Int)) rfl (q_addU (a := (((A / 18446744073709551616) + (((A % 18446744073709551616) + F) / 18446744073709551616)) * nu)) (b := ((((A % 18446744073709551616) + F) % 18446744073709551616) * nu / 18446744073709551616)) rfl rfl (Nat.mod_eq_of_lt (by omega))) ?_
   refine g6 ?_
   refine RW.q (v := .int .u64 (T : Int)) rfl (q_toU (r := T) rfl uT3 uT182 rfl (by omega)) ?_
   refine g1 ?_
   refine RW.q (v := iV (de : Int)) rfl (q_as (v := iV (me.2.2.2 : Int)) (q_load rfl uT3 rfl (Cell.blk 0 rfl rfl)) (congrArg (Value.int .i64) (by rw [hde]))) (RW.q (v := .int .u64 (de : Int)) rfl (q_toU (r := de) rfl uT3 uT182 rfl (by omega)) (RW.q (v := .int .u64 ((T * de : Nat) : Int)) rfl (q_mulU (a := T) (b := de) rfl rfl (Nat.mod_eq_of_lt (by omega))) ?_))
   refine g5 ?_
   obtain ⟨hiV, hhi⟩ : ∃ h, (A / 18446744073709551616 + (A % 18446744073709551616 + F) / 18446744073709551616) * nu + (A % 18446744073709551616 + F) % 18446744073709551616 * nu / 18446744073709551616 = h := ⟨_, rfl⟩
   obtain ⟨loV, hlo⟩ : ∃ h, (A % 18446744073709551616 + F) % 18446744073709551616 * nu % 18446744073709551616 = h := ⟨_, rfl⟩
   obtain ⟨deV, hdeV⟩ : ∃ h, T * de = h := ⟨_, rfl⟩
   rw [hhi, hlo, hdeV]
   have hloL : loV < 18446744073709551616 := by rw [← hlo]; exact Nat.mod_lt _ (by omega)
   rw [hdeV] at hD1 hD0
   have hV : hiV * 18446744073709551616 + loV = (A + F) * nu := by
    rw [← hhi, ← hlo]
    have e1 : A + F = (A / 18446744073709551616 + (A % 18446744073709551616 + F) / 18446744073709551616) * 18446744073709551616 + (A % 18446744073709551616 + F) % 18446744073709551616 := by omega
    generalize A / 18446744073709551616 + (A % 18446744073709551616 + F) / 18446744073709551616 = x1 at *
    generalize (A % 18446744073709551616 + F) % 18446744073709551616 = x2 at *
    have e2 : (x1 * 18446744073709551616 + x2) * nu = x1 * nu * 18446744073709551616 + x2 * nu := by rw [Nat.add_mul, Nat.mul_right_comm]
    rw [e1, e2]
    omega
   have hvs : (W * 10 ^ l.length + Un.val l) * me.2.2.1 = hiV * 18446744073709551616 + loV := by rw [hT, hF, hnu, hA, hV]
   have hds : 10 ^ l.length * me.2.2.2 = deV := by rw [hT, hde, hdeV]
   refine g6 ?_
   refine AW.cond rfl (fun hc3 => ?_) fun hc3 => ?_
   ·
    simp [-List.getD_eq_getElem?_getD] at hc3
    refine g8 ?_
    refine fin_out2 (v := iV 0) (u := .bool false) rfl rfl rfl rfl (fun w' hw => ?_)
    refine ⟨?_, hw.below rfl⟩
    rw [Un.prod_no (.inr (.inr (by rw [hvs, hds]; have h9 := (Nat.le_div_iff_mul_le (show 0 < deV by omega)).2 (show 18446744073709551616 * deV ≤ hiV * 18446744073709551616 + loV by omega); unfold Un.M; omega)))]
    rfl
   ·
    simp [-List.getD_eq_getElem?_getD] at hc3
    refine g3 ?_
    obtain ⟨QQ, hQQ⟩ : ∃ q, (hiV * 18446744073709551616 + loV) / deV = q := ⟨_, rfl⟩
    obtain ⟨RR, hRR⟩ : ∃ q, (hiV * 18446744073709551616 + loV) % deV = q := ⟨_, rfl⟩
    refine g4 ?_
    refine RW.q (v := .tuple #[.int .u64 (((hiV * 18446744073709551616 + loV) / deV : Nat) : Int), .int .u64 (((hiV * 18446744073709551616 + loV) % deV : Nat) : Int)]) rfl (q_call (args := #[.int .u64 (hiV : Int), .int .u64 (loV : Int), .int .u64 (deV : Int)]) oK rfl rfl (fun w1 hw1 => Div64_c w1 (Go.K.hp w1) (Hp.le_refl _) (by omega) (by omega) (by omega))) (RW.q rfl (q_move rfl) (RW.q (v := .int .u64 (QQ : Int)) rfl (q_as (v := .int .u64 (((hiV * 18446744073709551616 + loV) / deV : Nat) : Int)) (q_extract rfl rfl) (congrArg (Value.int .u64) (by rw [hQQ]))) (RW.q (v := .int .u64 (RR : Int)) rfl (q_as (v := .int .u64 (((hiV * 18446744073709551616 + loV) % deV : Nat) : Int)) (q_extract rfl rfl) (congrArg (Value.int .u64) (by rw [hRR]))) ?_)))
    refine g12 ?_
    obtain ⟨qb1, hqb1⟩ : ∃ qz : Bool, ((!decide ((RR : Int) = ((0 : Nat) : Int))) || (decide (((1125899906842624 : Nat) : Int) < (QQ : Int)))) = qz := ⟨_, rfl⟩
    refine RW.q (v := .bool qb1) rfl (q_as (v := .bool ((!decide ((RR : Int) = ((0 : Nat) : Int))) || (decide (((1125899906842624 : Nat) : Int) < (QQ : Int))))) (qpO rfl rfl rfl) (congrArg Value.bool hqb1)) ?_
    subst hqb1
    refine g2 ?_
    refine AW.cond rfl (fun hc4 => ?_) fun hc4 => ?_
    ·
     simp [-List.getD_eq_getElem?_getD] at hc4
     refine g8 ?_
     refine fin_out2 (v := iV 0) (u := .bool false) rfl rfl rfl rfl (fun w' hw => ?_)
     refine ⟨?_, hw.below rfl⟩
     rw [Un.prod_no (show Un.M < W ∨ (W * 10 ^ l.length + Un.val l) * me.2.2.1 % (10 ^ l.length * me.2.2.2) ≠ 0 ∨ Un.M < (W * 10 ^ l.length + Un.val l) * me.2.2.1 / (10 ^ l.length * me.2.2.2) from ?_)]
     ·
      rfl
     ·
      rw [hvs, hds, hQQ, hRR]; unfold Un.M; omega
    ·
     simp [-List.getD_eq_getElem?_getD] at hc4
     refine g5 ?_
     refine RW.q (v := iV (QQ : Int)) rfl (q_ofU (a := QQ) rfl uT182 uT3 (by omega)) ?_
     refine g5 ?_
     refine fin_out2 (v := iV (QQ : Int)) (u := .bool true) rfl rfl rfl rfl (fun w' hw => ?_)
     refine ⟨?_, hw.below rfl⟩
     rw [Un.prod_yes (show W ≤ Un.M by unfold Un.M; omega) (by rw [hvs, hds, hRR]; omega) (by rw [hvs, hds, hQQ]; unfold Un.M; omega), hvs, hds, hQQ]
theorem Amount_c (w : World) (Φ : Hp) (hΦ : Hp.le Φ (hp w)) (hG : Knows Φ Glob) {l n : List UInt8} (hl : l.length ≤ 1099511627776) :
  Calls pg 147 #[.string (bs l), .string (bs n)] w fun e w' => e = .returned (.tuple #[.agg #[iV ((Un.amt l n).1 : Int), iV ((Un.amt l n).2.1 : Int)], iV ((Un.amt l n).2.2 : Int)]) ∧ Bel w.heap.size w w' := by
 refine calls_of_AW (args := [.string (bs l), .string (bs n)]) Tryz.func147 rfl (lBT rfl) (St ⟨w, Φ, []⟩ Φ []) (StP.init w Φ hΦ []) ?_
 show AW pg 53 [] _ _ _ [(0, .string (bs l)), (1, .string (bs n))] _
 have hbl := Un.bef_len l
 have hal := Un.aft_len l
 refine g2 ?_
 refine RW.alc rfl fun b1 => ?_
 refine g6 ?_
 refine RW.q (v := .tuple #[.string (bs (Un.bef l)), .string (bs (Un.aft l)), .bool (Un.pt l)]) rfl (q_call (args := #[.string (bs l), .string (bs ([46] : List UInt8))]) oK rfl rfl (fun w1 hw1 => sCut_c w1 (Go.K.hp w1) (Hp.le_refl _) (by omega))) (RW.q rfl (q_move rfl) ?_)
 refine g12 ?_
 refine RW.q (v := .bool (Un.digs (Un.bef l) 20)) rfl (q_call (args := #[.string (bs (Un.bef l)), iV 20]) oK rfl rfl (fun w1 hw1 => digits_c w1 (Go.K.hp w1) (Hp.le_refl _) (by omega))) ?_
 refine g4 ?_
 refine RW.g2 (b1 := (!(Un.digs (Un.bef l) 20))) (b2 := (Un.pt l)) (v := .string (bs (Un.aft l))) rfl rfl rfl (fun hg1 hg2 => q_move rfl) (RW.g2 (b1 := (!(Un.digs (Un.bef l) 20))) (b2 := (Un.pt l)) (v := .bool (Un.digs (Un.aft l) 9)) rfl rfl rfl (fun hg1 hg2 => q_call (args := #[.string (bs (Un.aft l)), iV 9]) oK rfl (args2 ((gv_pos hg1).trans (gv_pos hg2)) rfl) (fun w1 hw1 => digits_c w1 (Go.K.hp w1) (Hp.le_refl _) (by (try simp [-List.getD_eq_getElem?_getD] at hg1); (try simp [-List.getD_eq_getElem?_getD] at hg2); omega))) ?_)
 refine RW.g2 (b1 := (!(Un.digs (Un.bef l) 20))) (b2 := (Un.pt l)) (v := .bool (!(Un.digs (Un.aft l) 9))) rfl rfl rfl (fun hg1 hg2 => q_not ((gv_pos hg1).trans (gv_pos hg2))) ?_
 obtain ⟨qb1, hqb1⟩ : ∃ qz : Bool, ((Un.pt l) && (!(Un.digs (Un.aft l) 9))) = qz := ⟨_, rfl⟩
 refine RW.g (b := (!(Un.digs (Un.bef l) 20))) (v := .bool qb1) rfl rfl rfl (fun h => q_as (v := .bool ((Un.pt l) && (!(Un.digs (Un.aft l) 9)))) (q_pick (gv_pos h) (fun hp => (gv_pos h).trans ((gv_pos hp).trans (pkAndT hp))) (fun hp => pkAndF hp)) (congrArg Value.bool hqb1)) (RW.q (v := .bool ((!(Un.digs (Un.bef l) 20)) || qb1)) rfl (qpO rfl rfl rfl) ?_)
 subst hqb1
 refine g2 ?_
 refine AW.cond rfl (fun hc1 => ?_) fun hc1 => ?_
 ·
  simp [-List.getD_eq_getElem?_getD] at hc1
  refine g2 ?_
  refine RW.q (v := .agg #[iV 0, iV 0]) rfl (q_build (vals := []) zero202 uT202 places202 rfl rfl) (RW.effn (J' := St ⟨w, Φ, []⟩ Φ [.blk b1 202 [iV 0, iV 0]]) (e_store (v := .agg #[iV 0, iV 0]) 0 rfl rfl rfl sz202 rfl rfl rfl rfl rfl) ?_)
  refine g5 ?_
  refine fin_cell2 (cs := [iV 0, iV 0]) (v := iV 2) rfl rfl rfl rfl uT202 rfl sz202 rfl (Cells.blk 0 rfl) (fun w' hw => ?_)
  refine ⟨?_, hw.below rfl⟩
  have hok : Un.okF l = false := by
   unfold Un.okF
   rcases hc1 with h | h
   ·
    rw [h]; rfl
   ·
    rw [h.1, h.2]; simp
  rw [Un.amt_form hok]
  rfl
 ·
  simp [-List.getD_eq_getElem?_getD] at hc1
  refine g3 ?_
  have hok : Un.okF l = true := by
   unfold Un.okF
   rw [hc1.1, Bool.true_and]
   cases hp : Un.pt l with
   | false => rfl
   | true => exact hc1.2 hp
  obtain ⟨hb1, hb2, ha9, _⟩ := Un.okF_len hok
  refine g2 ?_
  refine RW.q (v := .tuple #[.agg #[.string (bs ((Un.fdM n).1)), iV (((Un.fdM n).2.1 : Nat) : Int), iV (((Un.fdM n).2.2.1 : Nat) : Int), iV (((Un.fdM n).2.2.2 : Nat) : Int)], .bool ((Un.look n).isSome)]) rfl (q_call (args := #[.string (bs n)]) oK rfl rfl (fun w1 hw1 => find_c w1 (Go.K.hp w1) (Hp.le_refl _) (hG.mono hw1.phi))) (RW.q rfl (q_move rfl) ?_)
  refine g2 ?_
  refine RW.alc rfl fun b2 => ?_
  refine RW.effn (J' := St ⟨w, Φ, []⟩ Φ [.blk b2 212 [.string (bs ((Un.fdM n).1)), iV (((Un.fdM n).2.1 : Nat) : Int), iV (((Un.fdM n).2.2.1 : Nat) : Int), iV (((Un.fdM n).2.2.2 : Nat) : Int)], .blk b1 202 [iV 0, iV 0]]) (e_store (v := .agg #[.string (bs ((Un.fdM n).1)), iV (((Un.fdM n).2.1 : Nat) : Int), iV (((Un.fdM n).2.2.1 : Nat) : Int), iV (((Un.fdM n).2.2.2 : Nat) : Int)]) 0 rfl rfl rfl sz212 rfl rfl rfl rfl rfl) ?_
  refine g10 ?_
  refine AW.cond rfl (fun hc2 => ?_) fun hc2 => ?_
  ·
   simp [-List.getD_eq_getElem?_getD] at hc2
   refine g2 ?_
   refine RW.q (v := .agg #[iV 0, iV 0]) rfl (q_build (vals := []) zero202 uT202 places202 rfl rfl) (RW.effn (J' := St ⟨w, Φ, []⟩ Φ [.blk b2 212 [.string (bs ((Un.fdM n).1)), iV (((Un.fdM n).2.1 : Nat) : Int), iV (((Un.fdM n).2.2.1 : Nat) : Int), iV (((Un.fdM n).2.2.2 : Nat) : Int)], .blk b1 202 [iV 0, iV 0]]) (e_store (v := .agg #[iV 0, iV 0]) 1 rfl rfl rfl sz202 rfl rfl rfl rfl rfl) ?_)
   refine g5 ?_
   refine fin_cell2 (cs := [iV 0, iV 0]) (v := iV 6) rfl rfl rfl rfl uT202 rfl sz202 rfl (Cells.blk 1 rfl) (fun w' hw => ?_)
   refine ⟨?_, hw.below rfl⟩
   rw [Un.amt_none hok (by simpa using hc2)]
   rfl
  ·
   simp [-List.getD_eq_getElem?_getD] at hc2
   refine g3 ?_
   obtain ⟨me, hlk⟩ := Option.isSome_iff_exists.1 hc2
   have hfd : Un.fdM n = me := by unfold Un.fdM; rw [hlk]; rfl
   rw [hfd]
   refine AW.draw (J0 := St ⟨w, Φ, []⟩ Φ [.blk b2 212 [.string (bs me.1), iV (me.2.1 : Int), iV (me.2.2.1 : Int), iV (me.2.2.2 : Int)], .blk b1 202 [iV 0, iV 0]]) (tq10 []) od10 hmix (by kernel_rfl) ?_
   refine g1 ?_
   refine DW.q (v := iV ((Un.valC (Un.bef l) : Nat) : Int)) (fun _ h => h) rfl (q_call (args := #[.string (bs (Un.bef l))]) oK rfl rfl (fun w1 hw1 => value_c w1 (Go.K.hp w1) (Hp.le_refl _) (by omega) (Un.okF_bef hok))) ?_
   refine g2 ?_
   refine DW.q (v := .tuple #[iV (((Un.prod (Un.valC (Un.bef l)) (Un.aft l) me).1 : Nat) : Int), .bool ((Un.prod (Un.valC (Un.bef l)) (Un.aft l) me).2)]) (fun _ h => h) rfl (q_call (args := #[iV ((Un.valC (Un.bef l) : Nat) : Int), .string (bs (Un.aft l)), .agg #[.string (bs me.1), iV (me.2.1 : Int), iV (me.2.2.1 : Int), iV (me.2.2.2 : Int)]]) oK rfl rfl (fun w1 hw1 => product_c w1 (Go.K.hp w1) (Hp.le_refl _) (Un.valC_le _) (Un.look_mem hlk).1 (by omega) (Un.okF_aft hok))) (DW.q (v := .tuple #[iV (((Un.prod (Un.valC (Un.bef l)) (Un.aft l) me).1 : Nat) : Int), .bool ((Un.prod (Un.valC (Un.bef l)) (Un.aft l) me).2)]) (fun _ h => h) rfl (q_move rfl) ?_)
   refine g13 ?_
   refine AW.cond rfl (fun hc3 => ?_) fun hc3 => ?_
   ·
    simp [-List.getD_eq_getElem?_getD] at hc3
    refine g2 ?_
    refine RW.q (v := .agg #[iV 0, iV 0]) rfl (q_build (vals := []) zero202 uT202 places202 rfl rfl) (RW.effn (J' := St ⟨w, Φ, []⟩ Φ [.blk b2 212 [.string (bs me.1), iV (me.2.1 : Int), iV (me.2.2.1 : Int), iV (me.2.2.2 : Int)], .blk b1 202 [iV 0, iV 0]]) (e_store (v := .agg #[iV 0, iV 0]) 1 rfl rfl rfl sz202 rfl rfl rfl rfl rfl) ?_)
    refine g5 ?_
    refine fin_cell2 (cs := [iV 0, iV 0]) (v := iV 7) rfl rfl rfl rfl uT202 rfl sz202 rfl (Cells.blk 1 rfl) (fun w' hw => ?_)
    refine ⟨?_, hw.below rfl⟩
    rw [Un.amt_prod hok hlk, if_neg (by rw [hc3]; simp)]
    rfl
   ·
    simp [-List.getD_eq_getElem?_getD] at hc3
    refine g7 ?_
    refine RW.q (v := .agg #[iV (((Un.prod (Un.valC (Un.bef l)) (Un.aft l) me).1 : Nat) : Int), iV (me.2.1 : Int)]) rfl (q_build (vals := [(0, iV (((Un.prod (Un.valC (Un.bef l)) (Un.aft l) me).1 : Nat) : Int)), (1, iV (me.2.1 : Int))]) zero202 uT202 places202 rfl rfl) (RW.effn (J' := St ⟨w, Φ, []⟩ Φ [.blk b2 212 [.string (bs me.1), iV (me.2.1 : Int), iV (me.2.2.1 : Int), iV (me.2.2.2 : Int)], .blk b1 202 [iV (((Un.prod (Un.valC (Un.bef l)) (Un.aft l) me).1 : Nat) : Int), iV (me.2.1 : Int)]]) (e_store (v := .agg #[iV (((Un.prod (Un.valC (Un.bef l)) (Un.aft l) me).1 : Nat) : Int), iV (me.2.1 : Int)]) 1 rfl rfl rfl sz202 rfl rfl rfl rfl rfl) ?_)
    refine g4 ?_
    refine fin_cell2 (cs := [iV (((Un.prod (Un.valC (Un.bef l)) (Un.aft l) me).1 : Nat) : Int), iV (me.2.1 : Int)]) (v := iV 0) rfl rfl rfl rfl uT202 rfl sz202 rfl (Cells.blk 1 rfl) (fun w' hw => ?_)
    refine ⟨?_, hw.below rfl⟩
    rw [Un.amt_prod hok hlk, if_pos hc3]
    rfl
end Go.Proofs.YtnfmjfheciihjaaGreatDoor
