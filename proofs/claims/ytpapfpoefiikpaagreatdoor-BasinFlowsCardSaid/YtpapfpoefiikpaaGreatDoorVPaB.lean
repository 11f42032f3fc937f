/- Lemmas. Conditions: those of each theorem. -/
import Derived.Test.YtpapfpoefiikpaaGreatDoorVBcB
import Derived.Shelf.Abstract
set_option maxRecDepth 8000
set_option maxHeartbeats 16000000
namespace Go.Proofs.YtpapfpoefiikpaaGreatDoor
open Go Go.K Go.RowKit
attribute [local irreducible] AW RW DW Post Qt
abbrev tkC1 (t : Bt.Token) : List Value := [iV t.Kind, .string (bs t.Text), iV t.At]
theorem properties_c (w : World) (Φ : Hp) (hΦ : Hp.le Φ (hp w)) : Calls pg 91 #[] w (RetS Φ w fun r Ψ => ∃ b M, r = .map (some b) ∧ TabM Ψ b M) := by
  refine in0 150 Tryz.func91 rfl rfl hΦ ?_
  have hA : Acc Φ [] [] := ⟨(fun _ h => by cases h), fun _ h => by cases h⟩
  repeat first
    | refine g1 ?_
    | refine RW.c rfl (fun w _ => one_c w) rfl rfl ?_
    | refine RW.c rfl (fun w _ => maybe_c w) rfl rfl ?_
    | refine RW.bN hA rfl (by decide) fun Ψ b hA => ?_
    | refine RW.bS (ss := [_]) hA rfl rfl rfl rfl rfl (by kernel_rfl) (by decide) fun Ψ b hA => ?_
    | refine RW.bS (ss := [_, _]) hA rfl rfl rfl rfl rfl (by kernel_rfl) (by decide) fun Ψ b hA => ?_
    | refine RW.bS (ss := [_, _, _]) hA rfl rfl rfl rfl rfl (by kernel_rfl) (by decide) fun Ψ b hA => ?_
    | refine RW.kM rfl fun b => ?_
    | refine RW.kI rfl rfl (by decide) ?_
    | (refine RW.bL Bc.place hA rfl rfl rfl rfl rfl rfl (by kernel_rfl) ?_ (by decide) ?_; (repeat first | exact trivial | refine ⟨⟨_, rfl, ?_⟩, ?_⟩ | exact List.mem_cons_self .. | refine List.mem_cons_of_mem _ ?_); intro Ψ b hA)
    | (refine RW.bL Bc.weir hA rfl rfl rfl rfl rfl rfl (by kernel_rfl) ?_ (by decide) ?_; (repeat first | exact trivial | refine ⟨⟨_, rfl, ?_⟩, ?_⟩ | exact List.mem_cons_self .. | refine List.mem_cons_of_mem _ ?_); intro Ψ b hA)
    | (refine RW.bL Bc.tbasin hA rfl rfl rfl rfl rfl rfl (by kernel_rfl) ?_ (by decide) ?_; (repeat first | exact trivial | refine ⟨⟨_, rfl, ?_⟩, ?_⟩ | exact List.mem_cons_self .. | refine List.mem_cons_of_mem _ ?_); intro Ψ b hA)
    | (refine RW.bL Bc.tgate hA rfl rfl rfl rfl rfl rfl (by kernel_rfl) ?_ (by decide) ?_; (repeat first | exact trivial | refine ⟨⟨_, rfl, ?_⟩, ?_⟩ | exact List.mem_cons_self .. | refine List.mem_cons_of_mem _ ?_); intro Ψ b hA)
    | (refine RW.bL Bc.tpump hA rfl rfl rfl rfl rfl rfl (by kernel_rfl) ?_ (by decide) ?_; (repeat first | exact trivial | refine ⟨⟨_, rfl, ?_⟩, ?_⟩ | exact List.mem_cons_self .. | refine List.mem_cons_of_mem _ ?_); intro Ψ b hA)
    | (refine RW.bL Bc.tsiphon hA rfl rfl rfl rfl rfl rfl (by kernel_rfl) ?_ (by decide) ?_; (repeat first | exact trivial | refine ⟨⟨_, rfl, ?_⟩, ?_⟩ | exact List.mem_cons_self .. | refine List.mem_cons_of_mem _ ?_); intro Ψ b hA)
    | (refine RW.bL Bc.tseep hA rfl rfl rfl rfl rfl rfl (by kernel_rfl) ?_ (by decide) ?_; (repeat first | exact trivial | refine ⟨⟨_, rfl, ?_⟩, ?_⟩ | exact List.mem_cons_self .. | refine List.mem_cons_of_mem _ ?_); intro Ψ b hA)
    | (refine RW.bL Bc.ttown hA rfl rfl rfl rfl rfl rfl (by kernel_rfl) ?_ (by decide) ?_; (repeat first | exact trivial | refine ⟨⟨_, rfl, ?_⟩, ?_⟩ | exact List.mem_cons_self .. | refine List.mem_cons_of_mem _ ?_); intro Ψ b hA)
    | (refine RW.bL Bc.tgauge hA rfl rfl rfl rfl rfl rfl (by kernel_rfl) ?_ (by decide) ?_; (repeat first | exact trivial | refine ⟨⟨_, rfl, ?_⟩, ?_⟩ | exact List.mem_cons_self .. | refine List.mem_cons_of_mem _ ?_); intro Ψ b hA)
    | (refine RW.bL Bc.troad hA rfl rfl rfl rfl rfl rfl (by kernel_rfl) ?_ (by decide) ?_; (repeat first | exact trivial | refine ⟨⟨_, rfl, ?_⟩, ?_⟩ | exact List.mem_cons_self .. | refine List.mem_cons_of_mem _ ?_); intro Ψ b hA)
    | (refine RW.bL Bc.tshelter hA rfl rfl rfl rfl rfl rfl (by kernel_rfl) ?_ (by decide) ?_; (repeat first | exact trivial | refine ⟨⟨_, rfl, ?_⟩, ?_⟩ | exact List.mem_cons_self .. | refine List.mem_cons_of_mem _ ?_); intro Ψ b hA)
  refine fin_rep rfl rfl rfl fun w' hw => ⟨_, Mch [(_, _), (_, _), (_, _), (_, _), (_, _), (_, _), (_, _), (_, _), (_, _), (_, _), (_, _), (_, _), (_, _), (_, _), (_, _)], rfl, ext_mem hw (List.mem_cons_self ..), fun k => tab_ok k ?_⟩
  exact ⟨rfl, (hA.l (_, _) (by repeat (first | exact List.mem_cons_self .. | refine List.mem_cons_of_mem _ ?_))).mono hw.phi_ext, ⟨rfl, (hA.l (_, _) (by repeat (first | exact List.mem_cons_self .. | refine List.mem_cons_of_mem _ ?_))).mono hw.phi_ext, ⟨rfl, (hA.l (_, _) (by repeat (first | exact List.mem_cons_self .. | refine List.mem_cons_of_mem _ ?_))).mono hw.phi_ext, ⟨rfl, (hA.l (_, _) (by repeat (first | exact List.mem_cons_self .. | refine List.mem_cons_of_mem _ ?_))).mono hw.phi_ext, ⟨rfl, (hA.l (_, _) (by repeat (first | exact List.mem_cons_self .. | refine List.mem_cons_of_mem _ ?_))).mono hw.phi_ext, ⟨rfl, (hA.l (_, _) (by repeat (first | exact List.mem_cons_self .. | refine List.mem_cons_of_mem _ ?_))).mono hw.phi_ext, ⟨rfl, (hA.l (_, _) (by repeat (first | exact List.mem_cons_self .. | refine List.mem_cons_of_mem _ ?_))).mono hw.phi_ext, ⟨rfl, (hA.l (_, _) (by repeat (first | exact List.mem_cons_self .. | refine List.mem_cons_of_mem _ ?_))).mono hw.phi_ext, ⟨rfl, (hA.l (_, _) (by repeat (first | exact List.mem_cons_self .. | refine List.mem_cons_of_mem _ ?_))).mono hw.phi_ext, ⟨rfl, (hA.l (_, _) (by repeat (first | exact List.mem_cons_self .. | refine List.mem_cons_of_mem _ ?_))).mono hw.phi_ext, ⟨rfl, (hA.l (_, _) (by repeat (first | exact List.mem_cons_self .. | refine List.mem_cons_of_mem _ ?_))).mono hw.phi_ext, ⟨rfl, (hA.l (_, _) (by repeat (first | exact List.mem_cons_self .. | refine List.mem_cons_of_mem _ ?_))).mono hw.phi_ext, ⟨rfl, (hA.l (_, _) (by repeat (first | exact List.mem_cons_self .. | refine List.mem_cons_of_mem _ ?_))).mono hw.phi_ext, ⟨rfl, (hA.l (_, _) (by repeat (first | exact List.mem_cons_self .. | refine List.mem_cons_of_mem _ ?_))).mono hw.phi_ext, ⟨rfl, (hA.l (_, _) (by repeat (first | exact List.mem_cons_self .. | refine List.mem_cons_of_mem _ ?_))).mono hw.phi_ext, trivial⟩⟩⟩⟩⟩⟩⟩⟩⟩⟩⟩⟩⟩⟩⟩
theorem tokens_c (w : World) (Φ : Hp) (hΦ : Hp.le Φ (hp w)) {l : List UInt8} :
  Calls pg 66 #[.string (bs l)] w (RetS Φ w fun r Ψ => ∃ B1, r = .func (.func 116) #[] #[.pointer (some ⟨B1, 0, none⟩)] ∧ PCell Ψ ⟨B1, 0, none⟩ (.string (bs l))) := by
 refine calls_of_AW (args := [.string (bs l)]) Tryz.func66 rfl (lBT rfl) (St ⟨w, Φ, []⟩ Φ []) (StP.init w Φ hΦ []) ?_
 show AW pg 4 [] _ _ _ [(0, .string (bs l))] _
 refine AW.seq (AW.region (RW.eff _ _ rfl (e_box (v := .string (bs l)) rfl) ?_))
 intro b1
 refine g5 ?_
 refine RW.q (v := .func (.func 116) #[] #[.pointer (some ⟨b1, 0, none⟩)]) rfl (q_makeFunc rfl rfl) ?_
 refine g4 ?_
 exact fin_rep rfl rfl rfl (fun w' hw => ⟨b1, rfl, _, _, _, blk_ext hw 0 rfl, rfl, rfl⟩)
theorem Scan_c (w : World) (Φ : Hp) (hΦ : Hp.le Φ (hp w)) {l : List UInt8} (_ : l.length ≤ maxLen) :
  Calls pg 19 #[.string (bs l)] w (RetS Φ (zw w) fun r Ψ => ∃ v, r = .tuple #[v, iV (Lx.scan l).2.1, iV (Lx.scan l).2.2] ∧ RepSl Ψ (Lx.scan l).1 v) := by
 refine callsIn_wide.1 (callsIn_of_wp_marks (n := 3) Tryz.func19 rfl trivial ?_ rfl)
 generalize hR : RetS Φ (zw w) (fun r Ψ => ∃ v, r = .tuple #[v, iV (Lx.scan l).2.1, iV (Lx.scan l).2.2] ∧ RepSl Ψ (Lx.scan l).1 v) = R
 have hfin : ∀ (Ψ : Hp) (C : List Chunk) (v : Value) (w' : World), StP ⟨zw w, Φ, []⟩ Ψ C w' → RepSl (Go.K.ext Φ w.heap.size w') (Lx.scan l).1 v → R (.returned (.tuple #[v, iV (Lx.scan l).2.1, iV (Lx.scan l).2.2])) w' := fun Ψ C v w' h1 h2 => by
  rw [← hR]; exact ⟨_, rfl, h1.below rfl, v, rfl, h2⟩
 have hLO : ¬ LetsOut (bodyPostM Fence.wide 3 pg Tryz.f19 R) := fun ⟨_, _, h⟩ => by
  have h' : R .outgrown _ := h
  rw [← hR] at h'
  obtain ⟨v, hv, _⟩ := h'
  cases hv
 refine (?_ : AI Fence.wide 3 pg 24 [] _ (bodyPostM Fence.wide 3 pg Tryz.f19 R) (fun _ => undef) (List.map (fun p => (p.2, p.1)) [Value.string (bs l)].zipIdx) (St ⟨zw w, Φ, []⟩ Φ [])) _ w (rel_init (lBT rfl)) (StP.zb (StP.init w Φ hΦ []))
 show AI _ _ pg 24 [] _ _ _ [(0, .string (bs l))] _
 refine AI.seq (AI.region rfl hLO ?_)
 refine RW.alc rfl fun b1 => ?_
 refine RW.alc rfl fun b2 => ?_
 refine RW.alc rfl fun b3 => ?_
 refine g1 ?_
 refine PI.qn0 (PI.then_n (AI.seq (AI.seq (AI.region rfl hLO ?_))))
 refine g1 ?_
 refine RW.q rfl (q_lenS (l := l) rfl uT9) ?_
 refine g2 ?_
 refine PI.qn0 (PI.then_n (AI.cond rfl (fun hc => ?_) fun hc => ?_))
 ·
  have hc : 65536 < l.length := by have := odT hc; omega
  have hsc : Lx.scan l = ([], 8, 0) := by unfold Lx.scan; rw [if_pos hc]
  refine AI.seq (AI.region rfl hLO ?_)
  refine g4 ?_
  refine PI.qn0 (PI.then_n (AI.ret (Post.then_r ?_)))
  refine fin_M0 (vs := [.slice none 0 0, iV 8, iV 0]) rfl ⟨.one rfl (Cell.blk 2 rfl rfl), .one rfl (Cell.blk 1 rfl rfl), .one rfl (Cell.blk 0 rfl rfl), trivial⟩ rfl (fun w' hw => ?_)
  have := hfin _ _ nS w' hw (by rw [hsc]; exact repSl_nil)
  rw [hsc] at this
  exact this
 have hc : l.length ≤ 65536 := by have := odF hc; omega
 refine AI.skip (PI.then_n (AI.seq (AI.region rfl hLO ?_)))
 refine RW.alc rfl fun b4 => ?_
 refine g1 ?_
 refine PI.qn0 (PI.then_n (AI.seq (AI.seq (AI.region rfl hLO ?_))))
 refine g1 ?_
 refine RW.eff _ _ rfl (e_callS (T := fun r Ψ => ∃ B1, r = .func (.func 116) #[] #[.pointer (some ⟨B1, 0, none⟩)] ∧ PCell Ψ ⟨B1, 0, none⟩ (.string (bs l))) (args := #[.string (bs l)]) oK rfl rfl (fun w1 hw1 => tokens_c w1 Φ hw1.phi)) ?_
 rintro ⟨⟨r0, Ψ⟩, ⟨B1, hr0, hpc⟩, hlΨ⟩
 replace hr0 : r0 = .func (.func 116) #[] #[.pointer (some ⟨B1, 0, none⟩)] := hr0
 replace hpc : PCell Ψ ⟨B1, 0, none⟩ (.string (bs l)) := hpc
 subst hr0
 refine g1 ?_
 refine PI.qn0 (PI.then_n (AI.block ?_))
 intro a w2 ha hw2
 replace hw2 : StP ⟨zw w, Φ, []⟩ Ψ [.blk b4 61 [.slice none 0 0], .blk b3 3 [iV 0], .blk b2 41 [iV 0], .blk b1 61 [.slice none 0 0]] w2 := hw2
 have hb1 : b1 < w2.heap.size := hw2.fp_lt (by simp [Chunk.blk])
 have hb2 : b2 < w2.heap.size := hw2.fp_lt (by simp [Chunk.blk])
 have hb3 : b3 < w2.heap.size := hw2.fp_lt (by simp [Chunk.blk])
 have hb4 : b4 < w2.heap.size := hw2.fp_lt (by simp [Chunk.blk])
 have hΨ : ∀ b o, Ψ b = some o → b < w2.heap.size := fun b o h => (Array.getElem?_eq_some_iff.1 (hw2.phi b o h)).1
 have hB1 : B1 < w2.heap.size := by obtain ⟨cs, T, fz, h1, _⟩ := hpc; exact hΨ _ _ h1
 have hB1n : Ψ B1 ≠ none := by
  obtain ⟨cs, T, fz, h1, _⟩ := hpc
  have h1 : Ψ B1 = some _ := h1
  rw [h1]; simp
 have cel0 : ∀ v : Value, Celled [.blk b4 61 [v], .blk b3 3 [iV 0], .blk b2 41 [iV 0], .blk b1 61 [.slice none 0 0]] := fun v => celled_blk (celled_blk (celled_blk (celled_blk celled_nil)))
 have cel1 : ∀ v u : Value, Celled [.blk b4 61 [v], .blk b3 3 [iV 0], .blk b2 41 [iV 0], .blk b1 61 [u]] := fun v u => celled_blk (celled_blk (celled_blk (celled_blk celled_nil)))
 have hadef : a.defers = [] := ha.defers
 refine wpIn_rangeFunc_ownH (F := Fence.wide) (n := 3) (α := Tkn l.length) rfl (by omega) (gf := 116) (lb := #[.pointer (some ⟨B1, 0, none⟩)]) (by rw [ha.eval]; rfl) trivial (enters_of Tryz.func116 (by kernel_rfl) rfl)
  (tokens1_stops hc (w := w2) (PCell.mono hpc hw2.phi)) (fun h k => k.trans h) (fun W l' o o' h1 h2 _ _ => World.putObj_heap_other (by omega)) (Below.refl _ _) (fun _ => rfl)
  (fun pre W => (∀ x ∈ pre, x.1.2 = true) ∧ w2.heap.size ≤ W.heap.size ∧ ∃ v, IsSl v pre.length ∧ StP ⟨zw w, Φ, []⟩ Ψ (.row v 65 3 pre.length (flat (pre.map (·.1.1))) :: [.blk b4 61 [v], .blk b3 3 [iV 0], .blk b2 41 [iV 0], .blk b1 61 [.slice none 0 0]]) W)
  (fun c pre W => c = .ret ∧ ∃ (p0 : List (Tkn l.length)) (x : Tkn l.length), pre = p0 ++ [x] ∧ x.1.2 = false ∧ StP ⟨zw w, Φ, []⟩ Ψ [.blk b3 3 [iV x.1.1.At], .blk b2 41 [iV 2], .blk b1 61 [.slice none 0 0]] W)
  (fun pre W W' row hs hg hr => ⟨hs.1, Nat.le_trans hs.2.1 hg.size, by obtain ⟨_, _, v, h1, h2⟩ := hs; exact ⟨v, h1, StP.turnz rfl (celled_row (cel0 v)) h2 hg hr hw2.size hΨ⟩⟩)
  (fun c pre W W' row hs hg hr => by obtain ⟨h0, p0, x, h1, h2, h3⟩ := hs; exact ⟨h0, p0, x, h1, h2, StP.turnz rfl (celled_blk (celled_blk (celled_blk celled_nil))) h3 hg hr hw2.size hΨ⟩)
  ⟨fun _ h => (by cases h), Nat.le_refl _, .slice none 0 0, isSl_nil, addNil hw2⟩
  (fun x a' W => ∃ Bx f', w2.heap.size ≤ Bx ∧ W.heap[Bx]? = some (.cells (tkC1 x.1.1).toArray 65 (0, 0)) ∧ (∀ v, W.heap[b4]? = some (.cells [v].toArray 61 (0, 0)) → Bx ∉ blks v) ∧ (∃ o, W.heap[b4]? = some o ∧ o.isCells = true) ∧
   Rel 24 [] (fr f' [(7, .bool x.1.2), (6, .pointer (some ⟨Bx, 0, none⟩)), (2, .pointer (some ⟨b1, 0, none⟩)), (3, .pointer (some ⟨b2, 0, none⟩)), (4, .pointer (some ⟨b3, 0, none⟩)), (5, .pointer (some ⟨b4, 0, none⟩))]) a')
  (fun x a' _ W W' row hs hg hr => by
   obtain ⟨Bx, f', h1, h2, h3, ⟨o4, h4, h4c⟩, h5⟩ := hs
   have k1 : W'.heap[Bx]? = W.heap[Bx]? := hg.block Bx (Array.getElem?_eq_some_iff.1 h2).1 (fun e => by obtain ⟨_, o, h6, h7⟩ := hr Bx e.symm; rw [h2] at h6; cases h6; cases h7)
   have k2 : W'.heap[b4]? = W.heap[b4]? := hg.block b4 (Array.getElem?_eq_some_iff.1 h4).1 (fun e => by obtain ⟨_, o, h6, h7⟩ := hr b4 e.symm; rw [h4] at h6; cases h6; rw [h7] at h4c; cases h4c)
   exact ⟨Bx, f', h1, k1.trans h2, fun v hv => h3 v (k2 ▸ hv), ⟨o4, k2.trans h4, h4c⟩, h5⟩)
  ?assign ?body ?done ?stop
 case assign =>
  rintro l0 pre x W K ⟨hall, hsz, v, hsl, hst⟩ hK
  have hact : ({ tmps := (#[13, 14].zip (encT x)).foldl (fun t (p : Nat × Value) => t.setIfInBounds p.1 p.2) a.tmps, defers := [] } : Act) = (a.put (some 13) (tkV x.1.1)).put (some 14) (.bool x.1.2) := by
   simp [Act.put, hadef, encT]
  refine hact ▸ ?_
  have hrel := (ha.put (d := 13) rfl (tkV x.1.1)).put (d := 14) rfl (.bool x.1.2)
  refine (?_ : AI (Fence.wide.inRound l0) (3 - 1 - 1) pg 24 [] _ (Exit.then K (fun _ _ _ => False)) _ _ (St ⟨W, Ψ, own (.row v 65 3 pre.length (flat (pre.map (·.1.1))) :: [.blk b4 61 [v], .blk b3 3 [iV 0], .blk b2 41 [iV 0], .blk b1 61 [.slice none 0 0]])⟩ Ψ (.row v 65 3 pre.length (flat (pre.map (·.1.1))) :: [.blk b4 61 [v], .blk b3 3 [iV 0], .blk b2 41 [iV 0], .blk b1 61 [.slice none 0 0]]))) _ W hrel hst.rebase
  have hLO2 : ¬ LetsOut (Exit.then K (fun _ _ _ => False)) := fun ⟨_, _, h⟩ => h
  refine AI.seq (AI.region rfl hLO2 ?_)
  refine RW.alc rfl fun Bx => ?_
  refine RW.stA (cs' := (tkC1 x.1.1)) 0 rfl rfl rfl rfl rfl rfl ?_
  refine g1 ?_
  refine PI.qn0 (PI.then_n (AI.region rfl hLO2 ?_))
  refine g2 ?_
  refine PI.qn0 (Post.mk fun a3 W3 ha3 hW3 => ?_)
  replace hW3 : StP ⟨W, Ψ, own (.row v 65 3 pre.length (flat (pre.map (·.1.1))) :: [.blk b4 61 [v], .blk b3 3 [iV 0], .blk b2 41 [iV 0], .blk b1 61 [.slice none 0 0]])⟩ Ψ (.blk Bx 65 (tkC1 x.1.1) :: .row v 65 3 pre.length (flat (pre.map (·.1.1))) :: [.blk b4 61 [v], .blk b3 3 [iV 0], .blk b2 41 [iV 0], .blk b1 61 [.slice none 0 0]]) W3 := hW3
  have hBx : W.heap.size ≤ Bx := by
   rcases (hW3.away Bx (by simp [Chunk.blk])).2 with h1 | h1
   ·
    exact h1
   ·
    obtain ⟨c, hc1, hc2⟩ := List.mem_flatMap.1 h1
    exact absurd hc2 ((List.pairwise_cons.1 hW3.sep).1 c hc1 Bx (by simp [Chunk.blk]))
  have hs0 : W3.heap[Bx]? = some (.cells (tkC1 x.1.1).toArray 65 (0, 0)) := hW3.sat (.blk Bx 65 (tkC1 x.1.1)) (List.mem_cons_self ..)
  have hs4 : W3.heap[b4]? = some (.cells [v].toArray 61 (0, 0)) := hW3.sat (.blk b4 61 [v]) (by simp)
  obtain ⟨f1, ha4⟩ : ∃ f1, Rel 24 [] (fr f1 [(7, .bool x.1.2), (6, .pointer (some ⟨Bx, 0, none⟩)), (2, .pointer (some ⟨b1, 0, none⟩)), (3, .pointer (some ⟨b2, 0, none⟩)), (4, .pointer (some ⟨b3, 0, none⟩)), (5, .pointer (some ⟨b4, 0, none⟩))]) a3 := ⟨_, Rel.of_allIn ha3 ⟨rfl, rfl, rfl, rfl, rfl, rfl, trivial⟩⟩
  refine hK a3 W3 ((StP.keeps (celled_row (cel0 v)) hst hW3).from _) (hst.aside hW3 (by omega) hB1n) ⟨hall, Nat.le_trans hsz hW3.size, v, hsl, (hst.join hW3).drop (List.sublist_cons_self ..)⟩ ⟨Bx, f1, by omega, hs0, fun v' hv' => ?_, ⟨_, hs4, rfl⟩, ha4⟩
  rw [hs4] at hv'
  obtain rfl : v = v' := by simpa using hv'
  exact fun hb => (List.pairwise_cons.1 hW3.sep).1 (.row v 65 3 pre.length (flat (pre.map (·.1.1)))) (List.mem_cons_self ..) Bx (by simp [Chunk.blk]) hb
 case body =>
  rintro l0 pre x a' W hlt ⟨r, hr⟩ ⟨hall, hsz, v, hsl, hst⟩ ⟨Bx, f', hBx, hcx, hnx, _, hrel⟩ hlen
  have hs4 : W.heap[b4]? = some (.cells [v].toArray 61 (0, 0)) := hst.sat (.blk b4 61 [v]) (by simp)
  have hst2 : StP ⟨zw w, Φ, []⟩ Ψ (.blk Bx 65 (tkC1 x.1.1) :: .row v 65 3 pre.length (flat (pre.map (·.1.1))) :: [.blk b4 61 [v], .blk b3 3 [iV 0], .blk b2 41 [iV 0], .blk b1 61 [.slice none 0 0]]) W := hst.add hcx (by
    have := hnx v hs4
    simp only [own, List.flatMap_cons, List.flatMap_nil, List.mem_append, List.not_mem_nil, or_false, not_or]
    refine ⟨this, ?_, ?_, ?_, ?_⟩ <;> (simp only [Chunk.blk, List.mem_singleton]; omega)) (by
    cases h : Ψ Bx with
    | none => rfl
    | some o => have := hΨ _ _ h; omega) (by have := hw2.size; simp only at this ⊢; omega)
  have cel : Celled (.blk Bx 65 (tkC1 x.1.1) :: .row v 65 3 pre.length (flat (pre.map (·.1.1))) :: [.blk b4 61 [v], .blk b3 3 [iV 0], .blk b2 41 [iV 0], .blk b1 61 [.slice none 0 0]]) := celled_blk (celled_row (cel0 v))
  have hLO2 : ¬ LetsOut (ownPostG w2.heap.size (fun W W' : World => W'.heap[B1]? = W.heap[B1]?)
   (fun (pre : List (Tkn l.length)) W => (∀ x ∈ pre, x.1.2 = true) ∧ w2.heap.size ≤ W.heap.size ∧ ∃ v, IsSl v pre.length ∧ StP ⟨zw w, Φ, []⟩ Ψ (.row v 65 3 pre.length (flat (pre.map (·.1.1))) :: [.blk b4 61 [v], .blk b3 3 [iV 0], .blk b2 41 [iV 0], .blk b1 61 [.slice none 0 0]]) W)
   (fun c (pre : List (Tkn l.length)) W => c = .ret ∧ ∃ (p0 : List (Tkn l.length)) (x : Tkn l.length), pre = p0 ++ [x] ∧ x.1.2 = false ∧ StP ⟨zw w, Φ, []⟩ Ψ [.blk b3 3 [iV x.1.1.At], .blk b2 41 [iV 2], .blk b1 61 [.slice none 0 0]] W) (pre ++ [x]) W) := fun ⟨_, _, h⟩ => h
  refine (?_ : AI (Fence.wide.inRound l0) (3 - 1 - 1) pg 24 [] _ _ _ _ (St ⟨W, Ψ, own (.blk Bx 65 (tkC1 x.1.1) :: .row v 65 3 pre.length (flat (pre.map (·.1.1))) :: [.blk b4 61 [v], .blk b3 3 [iV 0], .blk b2 41 [iV 0], .blk b1 61 [.slice none 0 0]])⟩ Ψ (.blk Bx 65 (tkC1 x.1.1) :: .row v 65 3 pre.length (flat (pre.map (·.1.1))) :: [.blk b4 61 [v], .blk b3 3 [iV 0], .blk b2 41 [iV 0], .blk b1 61 [.slice none 0 0]]))) a' W hrel hst2.rebase
  refine AI.block (AI.seq (AI.seq (AI.region rfl hLO2 ?_)))
  refine g3 ?_
  refine PI.qn0 (PI.then_n (AI.cond rfl (fun hk => ?_) fun hk => ?_))
  ·
   have hk : x.1.2 = false := by simpa using hk
   refine AI.seq (AI.draw (J0 := St ⟨W, Ψ, own (.blk Bx 65 (tkC1 x.1.1) :: .row v 65 3 pre.length (flat (pre.map (·.1.1))) :: [.blk b4 61 [v], .blk b3 3 [iV 0], .blk b2 41 [iV 0], .blk b1 61 [.slice none 0 0]])⟩ Ψ [.blk Bx 65 (tkC1 x.1.1)]) [.q, .q, .e, .e, .e] [0, 1, 2, 3, 4] hmix (by kernel_rfl) rfl hLO2 ?_)
   refine DW.q (fun _ h => StP.drop h (.cons_cons _ (List.nil_sublist _))) rfl (qa_fa0 rfl) (DW.q (fun _ h => StP.drop h (.cons_cons _ (List.nil_sublist _))) rfl (qa_ld rfl (Cell.blk 0 rfl rfl)) (DW.effn (fun _ _ h => StP.drop h (.cons_cons _ (List.nil_sublist _))) (e_sto 5 rfl rfl rfl rfl rfl rfl) (DW.effn (fun _ _ h => StP.drop h (.cons_cons _ (List.nil_sublist _))) (e_sto 4 rfl rfl rfl rfl rfl rfl) (DW.effn (fun _ _ h => StP.drop h (.cons_cons _ (List.nil_sublist _))) (e_sto 3 rfl rfl rfl rfl rfl rfl) (DW.nil (PI.then_n (AI.ret (Post.then_r (Post.blk_r (Post.mk fun a3 W3 ha3 hW3 => ?_))))))))))
   exact ⟨(StP.keeps cel hst2 hW3).from _, rfl, pre, x, rfl, hk, (hst2.join hW3).drop (.cons _ (.cons _ (.cons _ (List.Sublist.refl _))))⟩
  ·
   have hk : x.1.2 = true := by simpa using hk
   refine AI.skip (PI.then_n (AI.region rfl hLO2 ?_))
   refine g2 ?_
   refine RW.eff (fun b5 : Nat => (.slice (some ⟨b5, 0, none⟩) 1 1)) (fun b5 => St ⟨W, Ψ, own (.blk Bx 65 (tkC1 x.1.1) :: .row v 65 3 pre.length (flat (pre.map (·.1.1))) :: [.blk b4 61 [v], .blk b3 3 [iV 0], .blk b2 41 [iV 0], .blk b1 61 [.slice none 0 0]])⟩ Ψ (.row (.slice (some ⟨b5, 0, none⟩) 1 1) 65 3 1 (tkC1 x.1.1) :: .blk Bx 65 (tkC1 x.1.1) :: .row v 65 3 pre.length (flat (pre.map (·.1.1))) :: [.blk b4 61 [v], .blk b3 3 [iV 0], .blk b2 41 [iV 0], .blk b1 61 [.slice none 0 0]])) rfl (e_buildSlice (vals := [(0, .agg (tkC1 x.1.1).toArray)]) (cells := (tkC1 x.1.1)) uT61 inf65 rfl rfl rfl (by kernel_rfl) rfl) ?_
   intro b5
   refine RW.eff (fun xv : {vq : Value // IsSl vq (pre.length + 1)} => xv.1) (fun xv => St ⟨W, Ψ, own (.blk Bx 65 (tkC1 x.1.1) :: .row v 65 3 pre.length (flat (pre.map (·.1.1))) :: [.blk b4 61 [v], .blk b3 3 [iV 0], .blk b2 41 [iV 0], .blk b1 61 [.slice none 0 0]])⟩ Ψ (.row (.slice (some ⟨b5, 0, none⟩) 1 1) 65 3 1 (tkC1 x.1.1) :: .blk Bx 65 (tkC1 x.1.1) :: .row xv.1 65 3 (pre.length + 1) ((flat (pre.map (·.1.1))) ++ (tkC1 x.1.1)) :: [.blk b4 61 [v], .blk b3 3 [iV 0], .blk b2 41 [iV 0], .blk b1 61 [.slice none 0 0]])) rfl (e_append 2 rfl rfl rfl uT61 inf65 rfl rfl rfl (Cells.row0 0 rfl) rfl (by omega) (by omega) (fun _ => rfl)) ?_
   rintro ⟨va, hva⟩
   refine RW.effn (J' := St ⟨W, Ψ, own (.blk Bx 65 (tkC1 x.1.1) :: .row v 65 3 pre.length (flat (pre.map (·.1.1))) :: [.blk b4 61 [v], .blk b3 3 [iV 0], .blk b2 41 [iV 0], .blk b1 61 [.slice none 0 0]])⟩ Ψ (.row (.slice (some ⟨b5, 0, none⟩) 1 1) 65 3 1 (tkC1 x.1.1) :: .blk Bx 65 (tkC1 x.1.1) :: .row va 65 3 (pre.length + 1) ((flat (pre.map (·.1.1))) ++ (tkC1 x.1.1)) :: [.blk b4 61 [va], .blk b3 3 [iV 0], .blk b2 41 [iV 0], .blk b1 61 [.slice none 0 0]])) (e_storeSl (v := va) 3 rfl rfl rfl hva sz61 rfl rfl rfl) ?_
   refine g1 ?_
   refine PI.qn0 (Post.blk_n (Post.mk fun a3 W3 ha3 hW3 => ?_))
   have hj := hst2.join hW3
   refine ⟨(StP.keeps cel hst2 hW3).from _, hst2.aside hW3 (by omega) hB1n, fun y hy => ?_, Nat.le_trans hsz hW3.size, va, by simpa using hva, ?_⟩
   ·
    rcases List.mem_append.1 hy with hy | hy
    ·
     exact hall y hy
    ·
     rw [List.mem_singleton.1 hy]; exact hk
   ·
    have e1 : flat ((pre ++ [x]).map (·.1.1)) = (flat (pre.map (·.1.1))) ++ (tkC1 x.1.1) := by simp [flat]; rfl
    have e2 : (pre ++ [x]).length = pre.length + 1 := by simp
    rw [e1, e2]
    exact hj.drop (.cons _ (.cons _ (List.Sublist.refl _)))
 case done =>
  rintro Dd (xs : List (Tkn l.length)) W hD hS ⟨hall, hsz, v, hsl, hst⟩ hdef
  have hno : Dd ∉ own (.row v 65 3 xs.length (flat (xs.map fun t : Tkn l.length => t.1.1)) :: [.blk b4 61 [v], .blk b3 3 [iV 0], .blk b2 41 [iV 0], .blk b1 61 [.slice none 0 0]]) := fun h => by
   obtain ⟨cs, T, fz, h1⟩ := own_cells (celled_row (cel0 v)) hst h
   rw [hdef] at h1; cases h1
  have hlt : Dd < W.heap.size := (Array.getElem?_eq_some_iff.1 hdef).1
  have hlen : xs.length ≤ 65537 := by
   have h1 : (xs.map (·.1)).length ≤ l.length + 1 := by rw [hS]; exact Lx.stm_len _ _ _
   rw [List.length_map] at h1; omega
  have hscan : Lx.scan l = (xs.map (·.1.1), 0, 0) := by
   rw [Lx.scan_ok hc (fun y hy => by rw [← hS] at hy; obtain ⟨z, hz, rfl⟩ := List.mem_map.1 hy; exact hall z hz), ← hS, List.map_map]; rfl
  refine Post.go (J := St ⟨W, Ψ, own (.row v 65 3 xs.length (flat (xs.map fun t : Tkn l.length => t.1.1)) :: [.blk b4 61 [v], .blk b3 3 [iV 0], .blk b2 41 [iV 0], .blk b1 61 [.slice none 0 0]])⟩ Ψ (.row v 65 3 xs.length (flat (xs.map fun t : Tkn l.length => t.1.1)) :: [.blk b4 61 [v], .blk b3 3 [iV 0], .blk b2 41 [iV 0], .blk b1 61 [.slice none 0 0]])) ?_ ha.col hst.rebase
  refine Post.blk_n (PI.then_n (AI.seq (AI.region rfl hLO ?_)))
  refine g1 ?_
  refine RW.effn (J' := St ⟨W, Ψ, own (.row v 65 3 xs.length (flat (xs.map fun t : Tkn l.length => t.1.1)) :: [.blk b4 61 [v], .blk b3 3 [iV 0], .blk b2 41 [iV 0], .blk b1 61 [.slice none 0 0]])⟩ Ψ (.row v 65 3 xs.length (flat (xs.map fun t : Tkn l.length => t.1.1)) :: [.blk b4 61 [v], .blk b3 3 [iV 0], .blk b2 41 [iV 0], .blk b1 61 [v]])) (e_storeSl (v := v) 4 rfl rfl rfl hsl sz61 rfl rfl rfl) ?_
  refine g3 ?_
  refine PI.qn0 (PI.then_n (AI.ret ?_))
  refine fin_M1 (J' := St ⟨zw w, Φ, []⟩ Ψ (.row v 65 3 xs.length (flat (xs.map fun t : Tkn l.length => t.1.1)) :: [.blk b4 61 [v], .blk b3 3 [iV 0], .blk b2 41 [iV 0], .blk b1 61 [v]])) (vs := [v, iV 0, iV 0]) (fun w' hw' => (hw'.old Dd hlt hno).trans hdef)
   (fun w' hw' => StP.turnz rfl (celled_row (cel1 v v)) (hst.join hw') (grownBy_putObj' w' Dd _) (fun r e => by cases e; exact ⟨hD, _, (hw'.old Dd hlt hno).trans hdef, rfl⟩) hw2.size hΨ)
   rfl ⟨.one rfl (Cell.blk 4 rfl rfl), .one rfl (Cell.blk 3 rfl rfl), .one rfl (Cell.blk 2 rfl rfl), trivial⟩ rfl (fun w' hw => ?_)
  have := hfin _ _ v w' hw (by
   rw [hscan]
   exact RowS.repE evenTok (row_ext (w := zw w) hw 0 rfl) (by simp) (by simp only [maxSl]; show xs.length * 32 ≤ _; omega) (fun y hy => by
    obtain ⟨z, hz, rfl⟩ := List.mem_map.1 hy
    obtain ⟨h1, h2, h3, h4, h5⟩ := z.2
    refine ⟨?_, ?_, ?_⟩ <;> (try unfold I64) <;> (try simp only [maxLen]) <;> omega))
  rw [hscan] at this
  exact this
 case stop =>
  rintro Dd c pre W hD hSp ⟨rfl, p0, x, rfl, hx, hst⟩ hdef
  have hno : Dd ∉ own [.blk b3 3 [iV x.1.1.At], .blk b2 41 [iV 2], .blk b1 61 [.slice none 0 0]] := fun h => by
   obtain ⟨cs, T, fz, h1⟩ := own_cells (celled_blk (celled_blk (celled_blk celled_nil))) hst h
   rw [hdef] at h1; cases h1
  have hlt : Dd < W.heap.size := (Array.getElem?_eq_some_iff.1 hdef).1
  have hscan : Lx.scan l = ([], 2, x.1.1.At) := Lx.scan_bad hc (y := x.1) (hSp.subset (List.mem_map.2 ⟨x, by simp, rfl⟩)) hx
  refine (?_ : AI Fence.wide 3 pg 24 [{ target := .collected Dd, args := #[] }] _ _ _ _ (St ⟨W, Ψ, own [.blk b3 3 [iV x.1.1.At], .blk b2 41 [iV 2], .blk b1 61 [.slice none 0 0]]⟩ Ψ [.blk b3 3 [iV x.1.1.At], .blk b2 41 [iV 2], .blk b1 61 [.slice none 0 0]])) _ W ha.col hst.rebase
  refine AI.ret (Post.blk_r (Post.then_r ?_))
  refine fin_M1 (J' := St ⟨zw w, Φ, []⟩ Ψ [.blk b3 3 [iV x.1.1.At], .blk b2 41 [iV 2], .blk b1 61 [.slice none 0 0]]) (vs := [.slice none 0 0, iV 2, iV x.1.1.At]) (fun w' hw' => (hw'.old Dd hlt hno).trans hdef)
   (fun w' hw' => StP.turnz rfl (celled_blk (celled_blk (celled_blk celled_nil))) (hst.join hw') (grownBy_putObj' w' Dd _) (fun r e => by cases e; exact ⟨hD, _, (hw'.old Dd hlt hno).trans hdef, rfl⟩) hw2.size hΨ)
   rfl ⟨.one rfl (Cell.blk 2 rfl rfl), .one rfl (Cell.blk 1 rfl rfl), .one rfl (Cell.blk 0 rfl rfl), trivial⟩ rfl (fun w' hw => ?_)
  have := hfin _ _ nS w' hw (by rw [hscan]; exact repSl_nil)
  rw [hscan] at this
  exact this
structure PCtx (Φ : Hp) (toks : List Bt.Token) (tv : Value) : Prop where
  rep : RepSl Φ toks tv
  wf : ∀ t ∈ toks, Lx.wfT 65536 t
  len : toks.length ≤ 65537
theorem PCtx.mono {Φ Ψ : Hp} {toks : List Bt.Token} {tv : Value} (h : PCtx Φ toks tv) (hl : Hp.le Φ Ψ) : PCtx Ψ toks tv := ⟨h.rep.mono hl, h.wf, h.len⟩
abbrev pcs (tv : Value) (toks ts : List Bt.Token) : List Value := [tv, .int .i64 ((toks.length - ts.length : Nat) : Int)]
theorem pcs_next {tv : Value} {toks ts : List Bt.Token} (hs : ts <:+ toks) (hl : ts.tail.length + 1 = ts.length) : pcs tv toks ts.tail = [tv, .int .i64 ((toks.length - ts.length + 1 : Nat) : Int)] := by
  have := Pa.suf_len hs
  rw [pcs, show toks.length - ts.tail.length = toks.length - ts.length + 1 by omega]
abbrev tkC (x : Bt.Token) : List Value := [.int .i64 x.Kind, .string (bs x.Text), .int .i64 x.At]
theorem wf_pk {toks ts : List Bt.Token} (h : ∀ t ∈ toks, Lx.wfT 65536 t) (hs : ts <:+ toks) (hn : ts ≠ []) : Lx.wfT 65536 (Pa.pk ts) := by
  match ts, hn with
  | t :: r, _ => exact h t (hs.subset (List.mem_cons_self ..))
theorem peek_c (w : World) {p : Nat} {tv : Value} {toks ts : List Bt.Token} (h1 : w.heap[p]? = some (.cells (pcs tv toks ts).toArray 104 (0, 0))) (hc : PCtx (hp w) toks tv) (hs : ts <:+ toks) (hn : ts ≠ []) :
    Calls pg 89 #[.pointer (some ⟨p, 0, none⟩)] w fun e w' => e = .returned (.agg (tkC (Pa.pk ts)).toArray) ∧ Bel w.heap.size w w' := by
  refine calls_of_AW (args := [.pointer (some ⟨p, 0, none⟩)]) Tryz.func89 rfl (lBT rfl) (St ⟨w, hp w, []⟩ (hp w) []) (StP.init w (hp w) (Hp.le_refl _) []) ?_
  show AW _ _ [] _ _ _ [(0, .pointer (some ⟨p, 0, none⟩))] _
  have hc1 : ∀ {C : List Chunk} {o : Nat} {v : Value}, (pcs tv toks ts)[o]? = some v → Cell (St ⟨w, hp w, []⟩ (hp w) C) ⟨p, o, none⟩ v := fun {C o v} h => Cell.phi ⟨_, _, _, h1, rfl, by simpa using h⟩
  obtain ⟨hlt, hget⟩ := Pa.suf_get hs hn
  repeat refine g1 ?_
  refine RW.alc rfl fun b2 => ?_
  repeat refine g1 ?_
  refine AW.draw (J0 := St ⟨w, hp w, []⟩ (hp w) [.blk b2 65 [.int .i64 0, .string (bs []), .int .i64 0]]) [.q, .q, .q, .q, .q, .q, .q, .q, .q, .q, .e] [0, 1, 2, 3, 4, 5, 6, 7, 8, 9, 10] hmix (by kernel_rfl) ?_
  repeat refine g1 ?_
  refine DW.q (fun _ h => h) rfl (qa_ld rfl (hc1 rfl)) ?_
  repeat refine g1 ?_
  refine DW.q (fun _ h => h) rfl (qa_ld rfl (hc1 rfl)) ?_
  refine DW.q (v := .pointer (some (Value.at tv ((toks.length - ts.length) * 3)))) (fun _ h => h) rfl (q_indexAddr rfl rfl hc.rep.sl Tryz.underlying61 sz65 (by omega) (by omega) rfl) ?_
  refine DW.q (v := .agg (tkC (Pa.pk ts)).toArray) (fun _ h => h) rfl (qa_ldA (cs := tkC (Pa.pk ts)) rfl (Cells.repE (α := Bt.Token) hc.rep hlt (by rw [hget]; rfl)) rfl) ?_
  repeat refine g1 ?_
  exact fin_res (vs := [.agg (tkC (Pa.pk ts)).toArray]) rfl rfl ⟨.agg rfl rfl (Cells.blk 0 rfl), trivial⟩ rfl (fun w' hw => ⟨rfl, hw.below rfl⟩)
theorem blkAt {B : Bs} {Φ : Hp} {C : List Chunk} {w : World} {p T : Nat} {cs : List Value} (i : Nat) (hi : C[i]? = some (.blk p T cs)) (h : StP B Φ C w) : w.heap[p]? = some (.cells cs.toArray T (0, 0)) := h.sat _ (List.mem_of_getElem? hi)
theorem fail_to {α β : Type} {ts : List Bt.Token} {e : Int × Int} (h : Pa.fail (α := α) ts = .error e) : Pa.fail (α := β) ts = .error e := by
  unfold Pa.fail at *; cases h; rfl
section
variable (w : World) (Φ : Hp) {p : Nat} {tv : Value} {toks ts : List Bt.Token}
theorem fail_c (hc : PCtx Φ toks tv) (hs : ts <:+ toks) (hg : Pa.good ts) (h0 : StP ⟨w, Φ, [p]⟩ Φ [.blk p 104 (pcs tv toks ts)] w) :
    Calls pg 164 #[.pointer (some ⟨p, 0, none⟩)] w (ParR 100 w Φ p 104 (pcs tv toks) (Pa.fail (α := Unit) ts) fun _ _ _ => True) := by
  refine calls_of_AW (args := [.pointer (some ⟨p, 0, none⟩)]) Tryz.func164 rfl (lBT rfl) (St ⟨w, Φ, [p]⟩ Φ [.blk p 104 (pcs tv toks ts)]) h0 ?_
  show AW _ _ [] _ _ _ [(0, .pointer (some ⟨p, 0, none⟩))] _
  repeat refine g1 ?_
  refine RW.q rfl (q_call (args := #[.pointer (some ⟨p, 0, none⟩)]) oK rfl rfl (fun w1 hw1 => peek_c w1 (blkAt 0 rfl hw1) (hc.mono hw1.phi) hs (Pa.good_ne hg))) ?_
  repeat refine g1 ?_
  refine RW.q (v := .agg #[.int .i64 2, .int .i64 (Pa.pk ts).At]) rfl (q_build (vals := [(0, .int .i64 2), (1, .int .i64 (Pa.pk ts).At)]) zero100 Tryz.underlying100 places100 rfl rfl) ?_
  repeat refine g1 ?_
  exact RW.pan rfl (fun w' hw' => .inr ⟨2, _, rfl, rfl, _, hw'.drop (List.nil_sublist _)⟩)
theorem is_c {c : List UInt8} (h1 : w.heap[p]? = some (.cells (pcs tv toks ts).toArray 104 (0, 0))) (hc : PCtx (hp w) toks tv) (hs : ts <:+ toks) (hn : ts ≠ []) :
    Calls pg 165 #[.pointer (some ⟨p, 0, none⟩), .string (bs c)] w fun e w' => e = .returned (.bool (Pa.isS c ts)) ∧ Bel w.heap.size w w' := by
  refine calls_of_AW (args := [.pointer (some ⟨p, 0, none⟩), .string (bs c)]) Tryz.func165 rfl (lBT rfl) (St ⟨w, hp w, []⟩ (hp w) []) (StP.init w (hp w) (Hp.le_refl _) []) ?_
  show AW _ _ [] _ _ _ [(0, .pointer (some ⟨p, 0, none⟩)), (1, .string (bs c))] _
  have hq : ∀ {C : List Chunk} {w1 : World}, (St ⟨w, hp w, []⟩ (hp w) C).p w1 → w1.heap[p]? = some (.cells (pcs tv toks ts).toArray 104 (0, 0)) := fun h => h.phi _ _ h1
  repeat refine g1 ?_
  refine RW.q rfl (q_call (args := #[.pointer (some ⟨p, 0, none⟩)]) oK rfl rfl (fun w1 hw1 => peek_c w1 (hq hw1) (hc.mono hw1.phi) hs hn)) ?_
  refine RW.alc rfl fun b5 => ?_
  repeat refine g1 ?_
  refine RW.g (b := decide ((Pa.pk ts).Kind = 3)) (v := .bool (decide ((Pa.pk ts).Text = c))) rfl rfl rfl (fun h => by exact q_eqlStr (gv_pos h) (gv_pos h)) ?_
  refine RW.q (v := .bool (Pa.isS c ts)) rfl (qpA rfl rfl rfl) ?_
  repeat refine g1 ?_
  exact fin_res (vs := [.bool (Pa.isS c ts)]) rfl rfl ⟨.tmp rfl, trivial⟩ rfl (fun w' hw => ⟨rfl, hw.below rfl⟩)
theorem psk_c {c : List UInt8} (hc : PCtx Φ toks tv) (hs : ts <:+ toks) (hg : Pa.good ts) (h0 : StP ⟨w, Φ, [p]⟩ Φ [.blk p 104 (pcs tv toks ts)] w) :
    Calls pg 125 #[.pointer (some ⟨p, 0, none⟩), .string (bs c)] w (ParR 100 w Φ p 104 (pcs tv toks) (.ok (Pa.isS c ts, if Pa.isS c ts = true then ts.tail else ts)) fun b r _ => r = .bool b) := by
  refine calls_of_AW (args := [.pointer (some ⟨p, 0, none⟩), .string (bs c)]) Tryz.func125 rfl (lBT rfl) (St ⟨w, Φ, [p]⟩ Φ [.blk p 104 (pcs tv toks ts)]) h0 ?_
  show AW _ _ [] _ _ _ [(0, .pointer (some ⟨p, 0, none⟩)), (1, .string (bs c))] _
  repeat refine g1 ?_
  refine RW.q rfl (q_call (args := #[.pointer (some ⟨p, 0, none⟩), .string (bs c)]) oK rfl rfl (fun w1 hw1 => is_c w1 (blkAt 0 rfl hw1) (hc.mono hw1.phi) hs (Pa.good_ne hg))) ?_
  repeat refine g1 ?_
  refine AW.cond rfl (fun h => ?_) fun h => ?_
  · have h : Pa.isS c ts = false := by simpa using h
    repeat refine g1 ?_
    exact fin_res (vs := [.bool false]) rfl rfl ⟨.tmp rfl, trivial⟩ rfl (fun w' hw => .inl ⟨false, ts, .bool false, Φ, by rw [h, if_neg (by simp)], rfl, Hp.le_refl _, hw, rfl⟩)
  · have h : Pa.isS c ts = true := by simpa using h
    have hk : (Pa.pk ts).Kind = 3 := by unfold Pa.isS at h; simp only [Bool.and_eq_true, decide_eq_true_eq] at h; exact h.1
    obtain ⟨_, hl⟩ := Pa.good_tail hg (by omega)
    have hle := Pa.suf_len hs
    have hln := hc.len
    repeat refine g1 ?_
    exact fin_res (vs := [.bool true]) rfl rfl ⟨.tmp rfl, trivial⟩ rfl (fun w' hw => .inl ⟨true, ts.tail, .bool true, Φ, by rw [h, if_pos rfl], rfl, Hp.le_refl _, by rw [pcs_next hs hl]; exact hw, rfl⟩)
theorem name_c (hc : PCtx Φ toks tv) (hs : ts <:+ toks) (hg : Pa.good ts) (h0 : StP ⟨w, Φ, [p]⟩ Φ [.blk p 104 (pcs tv toks ts)] w) :
    Calls pg 124 #[.pointer (some ⟨p, 0, none⟩)] w (ParR 100 w Φ p 104 (pcs tv toks) (Pa.nameP ts) fun x r _ => r = .agg (tkC x).toArray) := by
  refine calls_of_AW (args := [.pointer (some ⟨p, 0, none⟩)]) Tryz.func124 rfl (lBT rfl) (St ⟨w, Φ, [p]⟩ Φ [.blk p 104 (pcs tv toks ts)]) h0 ?_
  show AW _ _ [] _ _ _ [(0, .pointer (some ⟨p, 0, none⟩))] _
  repeat refine g1 ?_
  refine RW.alc rfl fun b2 => ?_
  repeat refine g1 ?_
  refine RW.q rfl (q_call (args := #[.pointer (some ⟨p, 0, none⟩)]) oK rfl rfl (fun w1 hw1 => peek_c w1 (blkAt 1 rfl hw1) (hc.mono hw1.phi) hs (Pa.good_ne hg))) ?_
  refine RW.alc rfl fun b3 => ?_
  repeat refine g1 ?_
  refine AW.cond rfl (fun h => ?_) fun h => ?_
  · have h : (Pa.pk ts).Kind ≠ 0 := by simpa using h
    have hf : Pa.nameP ts = Pa.fail ts := by unfold Pa.nameP; rw [if_neg h]
    repeat refine g1 ?_
    refine RW.eff _ _ rfl (e_par (args := #[.pointer (some ⟨p, 0, none⟩)]) 2 rfl oK rfl rfl (fun w1 hw1 => fail_c w1 Φ hc hs hg hw1) (fun er at_ Ψ w' he hw' => ?_) (fun _ => rfl)) ?_
    · rw [hf]; exact .inr ⟨er, at_, fail_to he, rfl, Ψ, hw'.drop (List.nil_sublist _)⟩
    · rintro ⟨_, h, _⟩; cases h
  · have h : (Pa.pk ts).Kind = 0 := by simpa using h
    have hf : Pa.nameP ts = .ok (Pa.pk ts, ts.tail) := by unfold Pa.nameP; rw [if_pos h]
    obtain ⟨_, hl⟩ := Pa.good_tail hg (by omega)
    have hle := Pa.suf_len hs
    have hln := hc.len
    repeat refine g1 ?_
    exact fin_res (vs := [.agg (tkC (Pa.pk ts)).toArray]) rfl rfl ⟨.agg rfl rfl (Cells.blk 1 rfl), trivial⟩ rfl (fun w' hw => .inl ⟨_, _, _, Φ, hf, rfl, Hp.le_refl _, by rw [pcs_next hs hl]; exact hw.drop (.cons _ (.cons _ (List.Sublist.refl _))), rfl⟩)
theorem word_c (hc : PCtx Φ toks tv) (hs : ts <:+ toks) (hg : Pa.good ts) (h0 : StP ⟨w, Φ, [p]⟩ Φ [.blk p 104 (pcs tv toks ts)] w) :
    Calls pg 126 #[.pointer (some ⟨p, 0, none⟩)] w (ParR 100 w Φ p 104 (pcs tv toks) (Pa.wordP ts) fun x r Ψ => NdV Ψ x r) := by
  refine calls_of_AW (args := [.pointer (some ⟨p, 0, none⟩)]) Tryz.func126 rfl (lBT rfl) (St ⟨w, Φ, [p]⟩ Φ [.blk p 104 (pcs tv toks ts)]) h0 ?_
  show AW _ _ [] _ _ _ [(0, .pointer (some ⟨p, 0, none⟩))] _
  have hle := Pa.suf_len hs
  have hln := hc.len
  have hwf := wf_pk hc.wf hs (Pa.good_ne hg)
  have hwn : ∀ k : Int, I64 k → wfN (Pa.wrd k (Pa.pk ts)) := fun k hk => by
    obtain ⟨h1, h2, h3, h4, h5⟩ := hwf
    refine ⟨hk, ?_, ?_, ?_, ?_⟩ <;> (simp only [Pa.wrd, maxLen] <;> (try unfold I64) <;> omega)
  repeat refine g1 ?_
  refine RW.alc rfl fun b2 => ?_
  repeat refine g1 ?_
  refine RW.q rfl (q_call (args := #[.pointer (some ⟨p, 0, none⟩)]) oK rfl rfl (fun w1 hw1 => peek_c w1 (blkAt 1 rfl hw1) (hc.mono hw1.phi) hs (Pa.good_ne hg))) ?_
  refine RW.alc rfl fun b3 => ?_
  repeat refine g1 ?_
  refine RW.q (v := .agg (ndC (Pa.wrd 3 (Pa.pk ts)) (.slice none 0 0)).toArray) rfl (q_build (vals := [(0, .int .i64 3), (1, .string (bs (Pa.pk ts).Text)), (3, .int .i64 (Pa.pk ts).At)]) zero40 Tryz.underlying40 places40 rfl rfl) ?_
  refine RW.alc rfl fun b4 => ?_
  repeat refine g1 ?_
  refine AW.cond rfl (fun h => ?_) fun h => ?_
  · have h : (Pa.pk ts).Kind = 0 := by simpa using h
    have hf : Pa.wordP ts = .ok (Pa.wrd 3 (Pa.pk ts), ts.tail) := by unfold Pa.wordP; rw [if_pos h]
    obtain ⟨_, hl⟩ := Pa.good_tail hg (by omega)
    repeat refine g1 ?_
    exact fin_res (vs := [.agg (ndC (Pa.wrd 3 (Pa.pk ts)) (.slice none 0 0)).toArray]) rfl rfl ⟨.agg rfl rfl (Cells.blk 2 rfl), trivial⟩ rfl (fun w' hw => .inl ⟨_, _, _, Φ, hf, rfl, Hp.le_refl _, by rw [pcs_next hs hl]; exact hw.drop (.cons _ (.cons _ (.cons _ (List.Sublist.refl _)))), _, rfl, hwn 3 (by unfold I64; omega), repSl_nil⟩)
  · have h : (Pa.pk ts).Kind ≠ 0 := by simpa using h
    repeat refine g1 ?_
    refine AW.cond rfl (fun h2 => ?_) fun h2 => ?_
    · have h2 : (Pa.pk ts).Kind = 2 := by simpa using h2
      have hf : Pa.wordP ts = .ok (Pa.wrd 4 (Pa.pk ts), ts.tail) := by unfold Pa.wordP; rw [if_neg h, if_pos h2]
      obtain ⟨_, hl⟩ := Pa.good_tail hg (by omega)
      repeat refine g1 ?_
      exact fin_res (vs := [.agg (ndC (Pa.wrd 4 (Pa.pk ts)) (.slice none 0 0)).toArray]) rfl rfl ⟨.agg rfl rfl (Cells.blk 2 rfl), trivial⟩ rfl (fun w' hw => .inl ⟨_, _, _, Φ, hf, rfl, Hp.le_refl _, by rw [pcs_next hs hl]; exact hw.drop (.cons _ (.cons _ (.cons _ (List.Sublist.refl _)))), _, rfl, hwn 4 (by unfold I64; omega), repSl_nil⟩)
    · have h2 : (Pa.pk ts).Kind ≠ 2 := by simpa using h2
      have hf : Pa.wordP ts = Pa.fail ts := by unfold Pa.wordP; rw [if_neg h, if_neg h2]
      repeat refine g1 ?_
      refine RW.eff _ _ rfl (e_par (args := #[.pointer (some ⟨p, 0, none⟩)]) 3 rfl oK rfl rfl (fun w1 hw1 => fail_c w1 Φ hc hs hg hw1) (fun er at_ Ψ w' he hw' => ?_) (fun _ => rfl)) ?_
      · rw [hf]; exact .inr ⟨er, at_, fail_to he, rfl, Ψ, hw'.drop (List.nil_sublist _)⟩
      · rintro ⟨_, h, _⟩; cases h
end
theorem isUnit_c (w : World) {Φ : Hp} (hΦ : Hp.le Φ (hp w)) (hG : Knows Φ Glob) {l : List UInt8} :
    Calls pg 171 #[.string (bs l)] w fun e w' => e = .returned (.bool (Pa.isUnit l)) ∧ Bel w.heap.size w w' := by
  refine calls_of_AW (args := [.string (bs l)]) Tryz.func171 rfl (lBT rfl) (St ⟨w, Φ, []⟩ Φ []) (StP.init w Φ hΦ []) ?_
  show AW _ _ [] _ _ _ [(0, .string (bs l))] _
  repeat refine g1 ?_
  refine RW.q rfl (q_call (args := #[.string (bs [48]), .string (bs l)]) oK rfl rfl (fun w1 hw1 => Amount_c w1 (Go.K.hp w1) (Hp.le_refl _) (hG.mono hw1.phi) (by simp))) ?_
  repeat refine g1 ?_
  refine RW.alc rfl fun b3 => ?_
  repeat refine g1 ?_
  refine fin_res (vs := [.bool (Pa.isUnit l)]) rfl rfl ⟨.tmp ?_, trivial⟩ rfl (fun w' hw => ⟨rfl, hw.below rfl⟩)
  show Value.bool _ = Value.bool _
  unfold Pa.isUnit
  congr 2
  exact decide_eq_decide.2 (by omega)
theorem amount_c (w : World) (Φ : Hp) (hG : Knows Φ Glob) {p : Nat} {tv : Value} {toks ts : List Bt.Token} (hc : PCtx Φ toks tv) (hs : ts <:+ toks) (hg : Pa.good ts) (hk : (Pa.pk ts).Kind = 1) (h0 : StP ⟨w, Φ, [p]⟩ Φ [.blk p 104 (pcs tv toks ts)] w) :
    Calls pg 182 #[.pointer (some ⟨p, 0, none⟩)] w (ParR 100 w Φ p 104 (pcs tv toks) (Pa.amtP ts) fun x r Ψ => NdV Ψ x r) := by
  refine calls_of_AW (args := [.pointer (some ⟨p, 0, none⟩)]) Tryz.func182 rfl (lBT rfl) (St ⟨w, Φ, [p]⟩ Φ [.blk p 104 (pcs tv toks ts)]) h0 ?_
  show AW _ _ [] _ _ _ [(0, .pointer (some ⟨p, 0, none⟩))] _
  obtain ⟨hs1, hg1, hl1⟩ := Pa.ad_tail hg (by omega)
  obtain ⟨_, hl⟩ := Pa.good_tail hg (by omega)
  have hs2 : ts.tail <:+ toks := hs1.trans hs
  have hle := Pa.suf_len hs
  have hln := hc.len
  have hwf := wf_pk hc.wf hs (Pa.good_ne hg)
  have hwu := wf_pk hc.wf hs2 (Pa.good_ne hg1)
  obtain ⟨_, _, hw3, hw4, hw5⟩ := hwf
  obtain ⟨_, _, hu3, _, _⟩ := hwu
  repeat refine g1 ?_
  refine RW.alc rfl fun b2 => ?_
  repeat refine g1 ?_
  refine RW.q rfl (q_call (args := #[.pointer (some ⟨p, 0, none⟩)]) oK rfl rfl (fun w1 hw1 => peek_c w1 (blkAt 1 rfl hw1) (hc.mono hw1.phi) hs (Pa.good_ne hg))) ?_
  refine RW.alc rfl fun b3 => ?_
  repeat refine g1 ?_
  refine RW.q rfl (q_call (args := #[.pointer (some ⟨p, 0, none⟩)]) oK rfl rfl (fun w1 hw1 => peek_c w1 (ts := ts.tail) (by rw [pcs_next hs hl]; exact blkAt 2 rfl hw1) (hc.mono hw1.phi) hs2 (Pa.good_ne hg1))) ?_
  refine RW.alc rfl fun b5 => ?_
  repeat refine g1 ?_
  refine RW.g (b := decide ((Pa.pk ts.tail).Kind = 0)) (v := .bool (Pa.isUnit (Pa.pk ts.tail).Text)) rfl rfl rfl (fun h => by exact q_call (args := #[.string (bs (Pa.pk ts.tail).Text)]) oK rfl (args1 (gv_pos h)) (fun w1 hw1 => isUnit_c w1 hw1.phi hG)) ?_
  refine RW.q (v := .bool (decide ((Pa.pk ts.tail).Kind = 0) && Pa.isUnit (Pa.pk ts.tail).Text)) rfl (qpA rfl rfl rfl) ?_
  repeat refine g1 ?_
  refine AW.cond rfl (fun h => ?_) fun h => ?_
  · have h : (Pa.pk ts.tail).Kind = 0 ∧ Pa.isUnit (Pa.pk ts.tail).Text = true := by simpa using h
    have hU : Pa.unitOf ts.tail = (Pa.pk ts.tail).Text := by unfold Pa.unitOf; rw [if_pos h]
    have hR : Pa.unitRest ts.tail = ts.tail.tail := by unfold Pa.unitRest; rw [if_pos h]
    obtain ⟨_, hl2⟩ := Pa.good_tail hg1 (by omega)
    have hpc : pcs tv toks (Pa.unitRest ts.tail) = [tv, .int .i64 ((toks.length - ts.length + 1 + 1 : Nat) : Int)] := by
      rw [hR, pcs, show toks.length - ts.tail.tail.length = toks.length - ts.length + 1 + 1 by omega]
    repeat refine g1 ?_
    refine RW.q rfl (q_call (args := #[.string (bs (Pa.pk ts).Text), .string (bs (Pa.unitOf ts.tail))]) oK rfl (by rw [hU]; rfl) (fun w1 hw1 => Amount_c w1 (Go.K.hp w1) (Hp.le_refl _) (hG.mono hw1.phi) (by omega))) ?_
    repeat refine g1 ?_
    refine RW.alc rfl fun b6 => ?_
    repeat refine g1 ?_
    refine AW.cond rfl (fun he => ?_) fun he => ?_
    · have he : (Un.amt (Pa.pk ts).Text (Pa.unitOf ts.tail)).2.2 ≠ 0 := by simpa using he
      have hf : Pa.amtP ts = .error (7, (Pa.pk ts).At) := by unfold Pa.amtP; simp only []; rw [if_neg he]
      repeat refine g1 ?_
      refine RW.q (v := .agg #[.int .i64 7, .int .i64 (Pa.pk ts).At]) rfl (q_build (vals := [(0, .int .i64 7), (1, .int .i64 (Pa.pk ts).At)]) zero100 Tryz.underlying100 places100 rfl rfl) ?_
      repeat refine g1 ?_
      exact RW.pan rfl (fun w' hw' => .inr ⟨7, _, hf, rfl, _, hw'.drop (List.nil_sublist _)⟩)
    · have he : (Un.amt (Pa.pk ts).Text (Pa.unitOf ts.tail)).2.2 = 0 := by simpa using he
      have hf : Pa.amtP ts = .ok (⟨5, [], ((Un.amt (Pa.pk ts).Text (Pa.unitOf ts.tail)).1 : Nat), ((Un.amt (Pa.pk ts).Text (Pa.unitOf ts.tail)).2.1 : Nat), (Pa.pk ts).At, []⟩, Pa.unitRest ts.tail) := by unfold Pa.amtP; simp only []; rw [if_pos he]
      have hwn : wfN (⟨5, [], ((Un.amt (Pa.pk ts).Text (Pa.unitOf ts.tail)).1 : Nat), ((Un.amt (Pa.pk ts).Text (Pa.unitOf ts.tail)).2.1 : Nat), (Pa.pk ts).At, []⟩ : Bt.Node) := by
        obtain ⟨ha1, ha2⟩ := Un.amt_le (Pa.pk ts).Text (Pa.unitOf ts.tail)
        refine ⟨?_, ?_, ?_, ?_, ?_⟩ <;> simp only [maxLen, List.length_nil] <;> (try unfold I64) <;> omega
      repeat refine g1 ?_
      refine RW.q (v := .agg (ndC (⟨5, [], ((Un.amt (Pa.pk ts).Text (Pa.unitOf ts.tail)).1 : Nat), ((Un.amt (Pa.pk ts).Text (Pa.unitOf ts.tail)).2.1 : Nat), (Pa.pk ts).At, []⟩ : Bt.Node) (.slice none 0 0)).toArray) rfl (q_build (vals := [(0, .int .i64 5), (2, .agg #[.int .i64 ((Un.amt (Pa.pk ts).Text (Pa.unitOf ts.tail)).1 : Nat), .int .i64 ((Un.amt (Pa.pk ts).Text (Pa.unitOf ts.tail)).2.1 : Nat)]), (3, .int .i64 (Pa.pk ts).At)]) zero40 Tryz.underlying40 places40 rfl rfl) ?_
      repeat refine g1 ?_
      exact fin_res (vs := [.agg (ndC (⟨5, [], ((Un.amt (Pa.pk ts).Text (Pa.unitOf ts.tail)).1 : Nat), ((Un.amt (Pa.pk ts).Text (Pa.unitOf ts.tail)).2.1 : Nat), (Pa.pk ts).At, []⟩ : Bt.Node) (.slice none 0 0)).toArray]) rfl rfl ⟨.agg rfl rfl (Cells.blk 3 rfl), trivial⟩ rfl (fun w' hw => .inl ⟨_, _, _, Φ, hf, rfl, Hp.le_refl _, by rw [hpc]; exact hw.drop (.cons _ (.cons _ (.cons _ (.cons _ (List.Sublist.refl _))))), _, rfl, hwn, repSl_nil⟩)
  · have h : ¬ ((Pa.pk ts.tail).Kind = 0 ∧ Pa.isUnit (Pa.pk ts.tail).Text = true) := by simpa using h
    have hU : Pa.unitOf ts.tail = [] := by unfold Pa.unitOf; rw [if_neg h]
    have hR : Pa.unitRest ts.tail = ts.tail := by unfold Pa.unitRest; rw [if_neg h]
    have hpc : pcs tv toks (Pa.unitRest ts.tail) = [tv, .int .i64 ((toks.length - ts.length + 1 : Nat) : Int)] := by
      rw [hR, pcs_next hs hl]
    repeat refine g1 ?_
    refine RW.q rfl (q_call (args := #[.string (bs (Pa.pk ts).Text), .string (bs (Pa.unitOf ts.tail))]) oK rfl (by rw [hU]; rfl) (fun w1 hw1 => Amount_c w1 (Go.K.hp w1) (Hp.le_refl _) (hG.mono hw1.phi) (by omega))) ?_
    repeat refine g1 ?_
    refine RW.alc rfl fun b6 => ?_
    repeat refine g1 ?_
    refine AW.cond rfl (fun he => ?_) fun he => ?_
    · have he : (Un.amt (Pa.pk ts).Text (Pa.unitOf ts.tail)).2.2 ≠ 0 := by simpa using he
      have hf : Pa.amtP ts = .error (7, (Pa.pk ts).At) := by unfold Pa.amtP; simp only []; rw [if_neg he]
      repeat refine g1 ?_
      refine RW.q (v := .agg #[.int .i64 7, .int .i64 (Pa.pk ts).At]) rfl (q_build (vals := [(0, .int .i64 7), (1, .int .i64 (Pa.pk ts).At)]) zero100 Tryz.underlying100 places100 rfl rfl) ?_
      repeat refine g1 ?_
      exact RW.pan rfl (fun w' hw' => .inr ⟨7, _, hf, rfl, _, hw'.drop (List.nil_sublist _)⟩)
    · have he : (Un.amt (Pa.pk ts).Text (Pa.unitOf ts.tail)).2.2 = 0 := by simpa using he
      have hf : Pa.amtP ts = .ok (⟨5, [], ((Un.amt (Pa.pk ts).Text (Pa.unitOf ts.tail)).1 : Nat), ((Un.amt (Pa.pk ts).Text (Pa.unitOf ts.tail)).2.1 : Nat), (Pa.pk ts).At, []⟩, Pa.unitRest ts.tail) := by unfold Pa.amtP; simp only []; rw [if_pos he]
      have hwn : wfN (⟨5, [], ((Un.amt (Pa.pk ts).Text (Pa.unitOf ts.tail)).1 : Nat), ((Un.amt (Pa.pk ts).Text (Pa.unitOf ts.tail)).2.1 : Nat), (Pa.pk ts).At, []⟩ : Bt.Node) := by
        obtain ⟨ha1, ha2⟩ := Un.amt_le (Pa.pk ts).Text (Pa.unitOf ts.tail)
        refine ⟨?_, ?_, ?_, ?_, ?_⟩ <;> simp only [maxLen, List.length_nil] <;> (try unfold I64) <;> omega
      repeat refine g1 ?_
      refine RW.q (v := .agg (ndC (⟨5, [], ((Un.amt (Pa.pk ts).Text (Pa.unitOf ts.tail)).1 : Nat), ((Un.amt (Pa.pk ts).Text (Pa.unitOf ts.tail)).2.1 : Nat), (Pa.pk ts).At, []⟩ : Bt.Node) (.slice none 0 0)).toArray) rfl (q_build (vals := [(0, .int .i64 5), (2, .agg #[.int .i64 ((Un.amt (Pa.pk ts).Text (Pa.unitOf ts.tail)).1 : Nat), .int .i64 ((Un.amt (Pa.pk ts).Text (Pa.unitOf ts.tail)).2.1 : Nat)]), (3, .int .i64 (Pa.pk ts).At)]) zero40 Tryz.underlying40 places40 rfl rfl) ?_
      repeat refine g1 ?_
      exact fin_res (vs := [.agg (ndC (⟨5, [], ((Un.amt (Pa.pk ts).Text (Pa.unitOf ts.tail)).1 : Nat), ((Un.amt (Pa.pk ts).Text (Pa.unitOf ts.tail)).2.1 : Nat), (Pa.pk ts).At, []⟩ : Bt.Node) (.slice none 0 0)).toArray]) rfl rfl ⟨.agg rfl rfl (Cells.blk 3 rfl), trivial⟩ rfl (fun w' hw => .inl ⟨_, _, _, Φ, hf, rfl, Hp.le_refl _, by rw [hpc]; exact hw.drop (.cons _ (.cons _ (.cons _ (.cons _ (List.Sublist.refl _))))), _, rfl, hwn, repSl_nil⟩)
end Go.Proofs.YtpapfpoefiikpaaGreatDoor
