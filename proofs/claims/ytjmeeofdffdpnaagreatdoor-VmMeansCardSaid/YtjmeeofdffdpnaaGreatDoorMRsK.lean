/- Lemmas. Conditions: those of each theorem. -/
import Derived.Test.YtjmeeofdffdpnaaGreatDoorMScA
import Derived.Shelf.Abstract
import Derived.Test.YtjmeeofdffdpnaaGreatDoorMMnA
import Derived.Test.YtjmeeofdffdpnaaGreatDoorMSwS
import Derived.Test.YtjmeeofdffdpnaaGreatDoorMDfq
set_option maxRecDepth 8000
set_option maxHeartbeats 16000000
namespace Go.Proofs.YtjmeeofdffdpnaaGreatDoor
open Go Go.K Go.RowKit
attribute [local irreducible] AW RW DW Post Qt
abbrev tkC1 (t : Bt.Token) : List Value := [iV t.Kind, .string (bs t.Text), iV t.At]
theorem tokens_c (w : World) (Φ : Hp) (hΦ : Hp.le Φ (hp w)) {l : List UInt8} :
  Calls pg 110 #[.string (bs l)] w (RetS Φ w fun r Ψ => ∃ B1, r = .func (.func 152) #[] #[.pointer (some ⟨B1, 0, none⟩)] ∧ PCell Ψ ⟨B1, 0, none⟩ (.string (bs l))) := by
 refine calls_of_AW (args := [.string (bs l)]) Tryz.func110 rfl (lBT rfl) (St ⟨w, Φ, []⟩ Φ []) (StP.init w Φ hΦ []) ?_
 show AW pg 4 [] _ _ _ [(0, .string (bs l))] _
 refine AW.seq (AW.region (RW.eff _ _ rfl (e_box (v := .string (bs l)) rfl) ?_))
 intro b1
 refine g5 ?_
 refine RW.q (v := .func (.func 152) #[] #[.pointer (some ⟨b1, 0, none⟩)]) rfl (q_makeFunc rfl rfl) ?_
 refine g4 ?_
 exact fin_rep rfl rfl rfl (fun w' hw => ⟨b1, rfl, _, _, _, blk_ext hw 0 rfl, rfl, rfl⟩)
theorem Scan_c (w : World) (Φ : Hp) (hΦ : Hp.le Φ (hp w)) {l : List UInt8} (_ : l.length ≤ maxLen) :
  Calls pg 55 #[.string (bs l)] w (RetS Φ w fun r Ψ => ∃ v, r = .tuple #[v, iV (Lx.scan l).2.1, iV (Lx.scan l).2.2] ∧ RepSl Ψ (Lx.scan l).1 v) := by
 refine callsIn_wide.1 (callsIn_of_wp_marks (n := 3) Tryz.func55 rfl trivial ?_ rfl)
 generalize hR : RetS Φ w (fun r Ψ => ∃ v, r = .tuple #[v, iV (Lx.scan l).2.1, iV (Lx.scan l).2.2] ∧ RepSl Ψ (Lx.scan l).1 v) = R
 have hfin : ∀ (Ψ : Hp) (C : List Chunk) (v : Value) (w' : World), StP ⟨w, Φ, []⟩ Ψ C w' → RepSl (Go.K.ext Φ w.heap.size w') (Lx.scan l).1 v → R (.returned (.tuple #[v, iV (Lx.scan l).2.1, iV (Lx.scan l).2.2])) w' := fun Ψ C v w' h1 h2 => by
  rw [← hR]; exact ⟨_, rfl, h1.below rfl, v, rfl, h2⟩
 have hLO : ¬ LetsOut (bodyPostM Fence.wide 3 pg Tryz.f55 R) := fun ⟨_, _, h⟩ => by
  have h' : R .outgrown _ := h
  rw [← hR] at h'
  obtain ⟨v, hv, _⟩ := h'
  cases hv
 refine (?_ : AI Fence.wide 3 pg 24 [] _ (bodyPostM Fence.wide 3 pg Tryz.f55 R) (fun _ => undef) (List.map (fun p => (p.2, p.1)) [Value.string (bs l)].zipIdx) (St ⟨w, Φ, []⟩ Φ [])) _ w (rel_init (lBT rfl)) (StP.init w Φ hΦ [])
 show AI _ _ pg 24 [] _ _ _ [(0, .string (bs l))] _
 refine AI.seq (AI.region rfl hLO ?_)
 refine RW.alc rfl fun b1 => ?_
 refine RW.alc rfl fun b2 => ?_
 refine RW.alc rfl fun b3 => ?_
 refine g1 ?_
 refine PI.qn0 (PI.then_n (AI.seq (AI.seq (AI.region rfl hLO ?_))))
 refine g1 ?_
 refine RW.q rfl (q_lenS (l := l) rfl uT9) ?_
 refine g2 ?_
 refine PI.qn0 (PI.then_n (AI.cond rfl (fun hc => ?_) fun hc => ?_))
 ·
  have hc : 65536 < l.length := by have := odT hc; omega
  have hsc : Lx.scan l = ([], 8, 0) := by unfold Lx.scan; rw [if_pos hc]
  refine AI.seq (AI.region rfl hLO ?_)
  refine g4 ?_
  refine PI.qn0 (PI.then_n (AI.ret (Post.then_r ?_)))
  refine fin_M0 (vs := [.slice none 0 0, iV 8, iV 0]) rfl ⟨.one rfl (Cell.blk 2 rfl rfl), .one rfl (Cell.blk 1 rfl rfl), .one rfl (Cell.blk 0 rfl rfl), trivial⟩ rfl (fun w' hw => ?_)
  have := hfin _ _ nS w' hw (by rw [hsc]; exact repSl_nil)
  rw [hsc] at this
  exact this
 have hc : l.length ≤ 65536 := by have := odF hc; omega
 refine AI.skip (PI.then_n (AI.seq (AI.region rfl hLO ?_)))
 refine RW.alc rfl fun b4 => ?_
 refine g1 ?_
 refine PI.qn0 (PI.then_n (AI.seq (AI.seq (AI.region rfl hLO ?_))))
 refine g1 ?_
 refine RW.eff _ _ rfl (e_callS (T := fun r Ψ => ∃ B1, r = .func (.func 152) #[] #[.pointer (some ⟨B1, 0, none⟩)] ∧ PCell Ψ ⟨B1, 0, none⟩ (.string (bs l))) (args := #[.string (bs l)]) oK rfl rfl (fun w1 hw1 => tokens_c w1 Φ hw1.phi)) ?_
 rintro ⟨⟨r0, Ψ⟩, ⟨B1, hr0, hpc⟩, hlΨ⟩
 replace hr0 : r0 = .func (.func 152) #[] #[.pointer (some ⟨B1, 0, none⟩)] := hr0
 replace hpc : PCell Ψ ⟨B1, 0, none⟩ (.string (bs l)) := hpc
 subst hr0
 refine g1 ?_
 refine PI.qn0 (PI.then_n (AI.block ?_))
 intro a w2 ha hw2
 replace hw2 : StP ⟨w, Φ, []⟩ Ψ [.blk b4 128 [.slice none 0 0], .blk b3 3 [iV 0], .blk b2 49 [iV 0], .blk b1 128 [.slice none 0 0]] w2 := hw2
 have hb1 : b1 < w2.heap.size := hw2.fp_lt (by simp [Chunk.blk])
 have hb2 : b2 < w2.heap.size := hw2.fp_lt (by simp [Chunk.blk])
 have hb3 : b3 < w2.heap.size := hw2.fp_lt (by simp [Chunk.blk])
 have hb4 : b4 < w2.heap.size := hw2.fp_lt (by simp [Chunk.blk])
 have hΨ : ∀ b o, Ψ b = some o → b < w2.heap.size := fun b o h => (Array.getElem?_eq_some_iff.1 (hw2.phi b o h)).1
 have hB1 : B1 < w2.heap.size := by obtain ⟨cs, T, fz, h1, _⟩ := hpc; exact hΨ _ _ h1
 have hB1n : Ψ B1 ≠ none := by
  obtain ⟨cs, T, fz, h1, _⟩ := hpc
  have h1 : Ψ B1 = some _ := h1
  rw [h1]; simp
 have cel0 : ∀ v : Value, Celled [.blk b4 128 [v], .blk b3 3 [iV 0], .blk b2 49 [iV 0], .blk b1 128 [.slice none 0 0]] := fun v => celled_blk (celled_blk (celled_blk (celled_blk celled_nil)))
 have cel1 : ∀ v u : Value, Celled [.blk b4 128 [v], .blk b3 3 [iV 0], .blk b2 49 [iV 0], .blk b1 128 [u]] := fun v u => celled_blk (celled_blk (celled_blk (celled_blk celled_nil)))
 have hadef : a.defers = [] := ha.defers
 refine wpIn_rangeFunc_ownH (F := Fence.wide) (n := 3) (α := Tkn l.length) rfl (by omega) (gf := 152) (lb := #[.pointer (some ⟨B1, 0, none⟩)]) (by rw [ha.eval]; rfl) trivial (enters_of Tryz.func152 (by kernel_rfl) rfl)
  (tokens1_stops hc (w := w2) (PCell.mono hpc hw2.phi)) (fun h k => k.trans h) (fun W l' o o' h1 h2 _ _ => World.putObj_heap_other (by omega)) (Below.refl _ _) (fun _ => rfl)
  (fun pre W => (∀ x ∈ pre, x.1.2 = true) ∧ w2.heap.size ≤ W.heap.size ∧ ∃ v, IsSl v pre.length ∧ StP ⟨w, Φ, []⟩ Ψ (.row v 175 3 pre.length (flat (pre.map (·.1.1))) :: [.blk b4 128 [v], .blk b3 3 [iV 0], .blk b2 49 [iV 0], .blk b1 128 [.slice none 0 0]]) W)
  (fun c pre W => c = .ret ∧ ∃ (p0 : List (Tkn l.length)) (x : Tkn l.length), pre = p0 ++ [x] ∧ x.1.2 = false ∧ StP ⟨w, Φ, []⟩ Ψ [.blk b3 3 [iV x.1.1.At], .blk b2 49 [iV 2], .blk b1 128 [.slice none 0 0]] W)
  (fun pre W W' row hs hg hr => ⟨hs.1, Nat.le_trans hs.2.1 hg.size, by obtain ⟨_, _, v, h1, h2⟩ := hs; exact ⟨v, h1, StP.turned (celled_row (cel0 v)) h2 hg hr hw2.size hΨ⟩⟩)
  (fun c pre W W' row hs hg hr => by obtain ⟨h0, p0, x, h1, h2, h3⟩ := hs; exact ⟨h0, p0, x, h1, h2, StP.turned (celled_blk (celled_blk (celled_blk celled_nil))) h3 hg hr hw2.size hΨ⟩)
  ⟨fun _ h => (by cases h), Nat.le_refl _, .slice none 0 0, isSl_nil, addNil hw2⟩
  (fun x a' W => ∃ Bx f', w2.heap.size ≤ Bx ∧ W.heap[Bx]? = some (.cells (tkC1 x.1.1).toArray 175 (0, 0)) ∧ (∀ v, W.heap[b4]? = some (.cells [v].toArray 128 (0, 0)) → Bx ∉ blks v) ∧ (∃ o, W.heap[b4]? = some o ∧ o.isCells = true) ∧
   Rel 24 [] (fr f' [(7, .bool x.1.2), (6, .pointer (some ⟨Bx, 0, none⟩)), (2, .pointer (some ⟨b1, 0, none⟩)), (3, .pointer (some ⟨b2, 0, none⟩)), (4, .pointer (some ⟨b3, 0, none⟩)), (5, .pointer (some ⟨b4, 0, none⟩))]) a')
  (fun x a' _ W W' row hs hg hr => by
   obtain ⟨Bx, f', h1, h2, h3, ⟨o4, h4, h4c⟩, h5⟩ := hs
   have k1 : W'.heap[Bx]? = W.heap[Bx]? := hg.block Bx (Array.getElem?_eq_some_iff.1 h2).1 (fun e => by obtain ⟨_, o, h6, h7⟩ := hr Bx e.symm; rw [h2] at h6; cases h6; cases h7)
   have k2 : W'.heap[b4]? = W.heap[b4]? := hg.block b4 (Array.getElem?_eq_some_iff.1 h4).1 (fun e => by obtain ⟨_, o, h6, h7⟩ := hr b4 e.symm; rw [h4] at h6; cases h6; rw [h7] at h4c; cases h4c)
   exact ⟨Bx, f', h1, k1.trans h2, fun v hv => h3 v (k2 ▸ hv), ⟨o4, k2.trans h4, h4c⟩, h5⟩)
  ?assign ?body ?done ?stop
 case assign =>
  rintro l0 pre x W K ⟨hall, hsz, v, hsl, hst⟩ hK
  have hact : ({ tmps := (#[13, 14].zip (encT x)).foldl (fun t (p : Nat × Value) => t.setIfInBounds p.1 p.2) a.tmps, defers := [] } : Act) = (a.put (some 13) (tkV x.1.1)).put (some 14) (.bool x.1.2) := by
   simp [Act.put, hadef, encT]
  refine hact ▸ ?_
  have hrel := (ha.put (d := 13) rfl (tkV x.1.1)).put (d := 14) rfl (.bool x.1.2)
  refine (?_ : AI (Fence.wide.inRound l0) (3 - 1 - 1) pg 24 [] _ (Exit.then K (fun _ _ _ => False)) _ _ (St ⟨W, Ψ, own (.row v 175 3 pre.length (flat (pre.map (·.1.1))) :: [.blk b4 128 [v], .blk b3 3 [iV 0], .blk b2 49 [iV 0], .blk b1 128 [.slice none 0 0]])⟩ Ψ (.row v 175 3 pre.length (flat (pre.map (·.1.1))) :: [.blk b4 128 [v], .blk b3 3 [iV 0], .blk b2 49 [iV 0], .blk b1 128 [.slice none 0 0]]))) _ W hrel hst.rebase
  have hLO2 : ¬ LetsOut (Exit.then K (fun _ _ _ => False)) := fun ⟨_, _, h⟩ => h
  refine AI.seq (AI.region rfl hLO2 ?_)
  refine RW.alc rfl fun Bx => ?_
  refine RW.stA (cs' := (tkC1 x.1.1)) 0 rfl rfl rfl rfl rfl rfl ?_
  refine g1 ?_
  refine PI.qn0 (PI.then_n (AI.region rfl hLO2 ?_))
  refine g2 ?_
  refine PI.qn0 (Post.mk fun a3 W3 ha3 hW3 => ?_)
  replace hW3 : StP ⟨W, Ψ, own (.row v 175 3 pre.length (flat (pre.map (·.1.1))) :: [.blk b4 128 [v], .blk b3 3 [iV 0], .blk b2 49 [iV 0], .blk b1 128 [.slice none 0 0]])⟩ Ψ (.blk Bx 175 (tkC1 x.1.1) :: .row v 175 3 pre.length (flat (pre.map (·.1.1))) :: [.blk b4 128 [v], .blk b3 3 [iV 0], .blk b2 49 [iV 0], .blk b1 128 [.slice none 0 0]]) W3 := hW3
  have hBx : W.heap.size ≤ Bx := by
   rcases (hW3.away Bx (by simp [Chunk.blk])).2 with h1 | h1
   ·
    exact h1
   ·
    obtain ⟨c, hc1, hc2⟩ := List.mem_flatMap.1 h1
    exact absurd hc2 ((List.pairwise_cons.1 hW3.sep).1 c hc1 Bx (by simp [Chunk.blk]))
  have hs0 : W3.heap[Bx]? = some (.cells (tkC1 x.1.1).toArray 175 (0, 0)) := hW3.sat (.blk Bx 175 (tkC1 x.1.1)) (List.mem_cons_self ..)
  have hs4 : W3.heap[b4]? = some (.cells [v].toArray 128 (0, 0)) := hW3.sat (.blk b4 128 [v]) (by simp)
  obtain ⟨f1, ha4⟩ : ∃ f1, Rel 24 [] (fr f1 [(7, .bool x.1.2), (6, .pointer (some ⟨Bx, 0, none⟩)), (2, .pointer (some ⟨b1, 0, none⟩)), (3, .pointer (some ⟨b2, 0, none⟩)), (4, .pointer (some ⟨b3, 0, none⟩)), (5, .pointer (some ⟨b4, 0, none⟩))]) a3 := ⟨_, Rel.of_allIn ha3 ⟨rfl, rfl, rfl, rfl, rfl, rfl, trivial⟩⟩
  refine hK a3 W3 ((StP.keeps (celled_row (cel0 v)) hst hW3).from _) (hst.aside hW3 (by omega) hB1n) ⟨hall, Nat.le_trans hsz hW3.size, v, hsl, (hst.join hW3).drop (List.sublist_cons_self ..)⟩ ⟨Bx, f1, by omega, hs0, fun v' hv' => ?_, ⟨_, hs4, rfl⟩, ha4⟩
  rw [hs4] at hv'
  obtain rfl : v = v' := by simpa using hv'
  exact fun hb => (List.pairwise_cons.1 hW3.sep).1 (.row v 175 3 pre.length (flat (pre.map (·.1.1)))) (List.mem_cons_self ..) Bx (by simp [Chunk.blk]) hb
 case body =>
  rintro l0 pre x a' W hlt ⟨r, hr⟩ ⟨hall, hsz, v, hsl, hst⟩ ⟨Bx, f', hBx, hcx, hnx, _, hrel⟩ hlen
  have hs4 : W.heap[b4]? = some (.cells [v].toArray 128 (0, 0)) := hst.sat (.blk b4 128 [v]) (by simp)
  have hst2 : StP ⟨w, Φ, []⟩ Ψ (.blk Bx 175 (tkC1 x.1.1) :: .row v 175 3 pre.length (flat (pre.map (·.1.1))) :: [.blk b4 128 [v], .blk b3 3 [iV 0], .blk b2 49 [iV 0], .blk b1 128 [.slice none 0 0]]) W := hst.add hcx (by
    have := hnx v hs4
    simp only [own, List.flatMap_cons, List.flatMap_nil, List.mem_append, List.not_mem_nil, or_false, not_or]
    refine ⟨this, ?_, ?_, ?_, ?_⟩ <;> (simp only [Chunk.blk, List.mem_singleton]; omega)) (by
    cases h : Ψ Bx with
    | none => rfl
    | some o => have := hΨ _ _ h; omega) (by have := hw2.size; simp only at this ⊢; omega)
  have cel : Celled (.blk Bx 175 (tkC1 x.1.1) :: .row v 175 3 pre.length (flat (pre.map (·.1.1))) :: [.blk b4 128 [v], .blk b3 3 [iV 0], .blk b2 49 [iV 0], .blk b1 128 [.slice none 0 0]]) := celled_blk (celled_row (cel0 v))
  have hLO2 : ¬ LetsOut (ownPostG w2.heap.size (fun W W' : World => W'.heap[B1]? = W.heap[B1]?)
   (fun (pre : List (Tkn l.length)) W => (∀ x ∈ pre, x.1.2 = true) ∧ w2.heap.size ≤ W.heap.size ∧ ∃ v, IsSl v pre.length ∧ StP ⟨w, Φ, []⟩ Ψ (.row v 175 3 pre.length (flat (pre.map (·.1.1))) :: [.blk b4 128 [v], .blk b3 3 [iV 0], .blk b2 49 [iV 0], .blk b1 128 [.slice none 0 0]]) W)
   (fun c (pre : List (Tkn l.length)) W => c = .ret ∧ ∃ (p0 : List (Tkn l.length)) (x : Tkn l.length), pre = p0 ++ [x] ∧ x.1.2 = false ∧ StP ⟨w, Φ, []⟩ Ψ [.blk b3 3 [iV x.1.1.At], .blk b2 49 [iV 2], .blk b1 128 [.slice none 0 0]] W) (pre ++ [x]) W) := fun ⟨_, _, h⟩ => h
  refine (?_ : AI (Fence.wide.inRound l0) (3 - 1 - 1) pg 24 [] _ _ _ _ (St ⟨W, Ψ, own (.blk Bx 175 (tkC1 x.1.1) :: .row v 175 3 pre.length (flat (pre.map (·.1.1))) :: [.blk b4 128 [v], .blk b3 3 [iV 0], .blk b2 49 [iV 0], .blk b1 128 [.slice none 0 0]])⟩ Ψ (.blk Bx 175 (tkC1 x.1.1) :: .row v 175 3 pre.length (flat (pre.map (·.1.1))) :: [.blk b4 128 [v], .blk b3 3 [iV 0], .blk b2 49 [iV 0], .blk b1 128 [.slice none 0 0]]))) a' W hrel hst2.rebase
  refine AI.block (AI.seq (AI.seq (AI.region rfl hLO2 ?_)))
  refine g3 ?_
  refine PI.qn0 (PI.then_n (AI.cond rfl (fun hk => ?_) fun hk => ?_))
  ·
   have hk : x.1.2 = false := by simpa using hk
   refine AI.seq (AI.draw (J0 := St ⟨W, Ψ, own (.blk Bx 175 (tkC1 x.1.1) :: .row v 175 3 pre.length (flat (pre.map (·.1.1))) :: [.blk b4 128 [v], .blk b3 3 [iV 0], .blk b2 49 [iV 0], .blk b1 128 [.slice none 0 0]])⟩ Ψ [.blk Bx 175 (tkC1 x.1.1)]) [.q, .q, .e, .e, .e] [0, 1, 2, 3, 4] hmix (by kernel_rfl) rfl hLO2 ?_)
   refine DW.q (fun _ h => StP.drop h (.cons_cons _ (List.nil_sublist _))) rfl (qa_fa0 rfl) (DW.q (fun _ h => StP.drop h (.cons_cons _ (List.nil_sublist _))) rfl (qa_ld rfl (Cell.blk 0 rfl rfl)) (DW.effn (fun _ _ h => StP.drop h (.cons_cons _ (List.nil_sublist _))) (e_sto 5 rfl rfl rfl rfl rfl rfl) (DW.effn (fun _ _ h => StP.drop h (.cons_cons _ (List.nil_sublist _))) (e_sto 4 rfl rfl rfl rfl rfl rfl) (DW.effn (fun _ _ h => StP.drop h (.cons_cons _ (List.nil_sublist _))) (e_sto 3 rfl rfl rfl rfl rfl rfl) (DW.nil (PI.then_n (AI.ret (Post.then_r (Post.blk_r (Post.mk fun a3 W3 ha3 hW3 => ?_))))))))))
   exact ⟨(StP.keeps cel hst2 hW3).from _, rfl, pre, x, rfl, hk, (hst2.join hW3).drop (.cons _ (.cons _ (.cons _ (List.Sublist.refl _))))⟩
  ·
   have hk : x.1.2 = true := by simpa using hk
   refine AI.skip (PI.then_n (AI.region rfl hLO2 ?_))
   refine g2 ?_
   refine RW.eff (fun b5 : Nat => (.slice (some ⟨b5, 0, none⟩) 1 1)) (fun b5 => St ⟨W, Ψ, own (.blk Bx 175 (tkC1 x.1.1) :: .row v 175 3 pre.length (flat (pre.map (·.1.1))) :: [.blk b4 128 [v], .blk b3 3 [iV 0], .blk b2 49 [iV 0], .blk b1 128 [.slice none 0 0]])⟩ Ψ (.row (.slice (some ⟨b5, 0, none⟩) 1 1) 175 3 1 (tkC1 x.1.1) :: .blk Bx 175 (tkC1 x.1.1) :: .row v 175 3 pre.length (flat (pre.map (·.1.1))) :: [.blk b4 128 [v], .blk b3 3 [iV 0], .blk b2 49 [iV 0], .blk b1 128 [.slice none 0 0]])) rfl (e_buildSlice (vals := [(0, .agg (tkC1 x.1.1).toArray)]) (cells := (tkC1 x.1.1)) uT128 inf175 rfl rfl rfl (by kernel_rfl) rfl) ?_
   intro b5
   refine RW.eff (fun xv : {vq : Value // IsSl vq (pre.length + 1)} => xv.1) (fun xv => St ⟨W, Ψ, own (.blk Bx 175 (tkC1 x.1.1) :: .row v 175 3 pre.length (flat (pre.map (·.1.1))) :: [.blk b4 128 [v], .blk b3 3 [iV 0], .blk b2 49 [iV 0], .blk b1 128 [.slice none 0 0]])⟩ Ψ (.row (.slice (some ⟨b5, 0, none⟩) 1 1) 175 3 1 (tkC1 x.1.1) :: .blk Bx 175 (tkC1 x.1.1) :: .row xv.1 175 3 (pre.length + 1) ((flat (pre.map (·.1.1))) ++ (tkC1 x.1.1)) :: [.blk b4 128 [v], .blk b3 3 [iV 0], .blk b2 49 [iV 0], .blk b1 128 [.slice none 0 0]])) rfl (e_append 2 rfl rfl rfl uT128 inf175 rfl rfl rfl (Cells.row0 0 rfl) rfl (by omega) (by omega) (fun _ => rfl)) ?_
   rintro ⟨va, hva⟩
   refine RW.effn (J' := St ⟨W, Ψ, own (.blk Bx 175 (tkC1 x.1.1) :: .row v 175 3 pre.length (flat (pre.map (·.1.1))) :: [.blk b4 128 [v], .blk b3 3 [iV 0], .blk b2 49 [iV 0], .blk b1 128 [.slice none 0 0]])⟩ Ψ (.row (.slice (some ⟨b5, 0, none⟩) 1 1) 175 3 1 (tkC1 x.1.1) :: .blk Bx 175 (tkC1 x.1.1) :: .row va 175 3 (pre.length + 1) ((flat (pre.map (·.1.1))) ++ (tkC1 x.1.1)) :: [.blk b4 128 [va], .blk b3 3 [iV 0], .blk b2 49 [iV 0], .blk b1 128 [.slice none 0 0]])) (e_storeSl (v := va) 3 rfl rfl rfl hva sz128 rfl rfl rfl) ?_
   refine g1 ?_
   refine PI.qn0 (Post.blk_n (Post.mk fun a3 W3 ha3 hW3 => ?_))
   have hj := hst2.join hW3
   refine ⟨(StP.keeps cel hst2 hW3).from _, hst2.aside hW3 (by omega) hB1n, fun y hy => ?_, Nat.le_trans hsz hW3.size, va, by simpa using hva, ?_⟩
   ·
    rcases List.mem_append.1 hy with hy | hy
    ·
     exact hall y hy
    ·
     rw [List.mem_singleton.1 hy]; exact hk
   ·
    have e1 : flat ((pre ++ [x]).map (·.1.1)) = (flat (pre.map (·.1.1))) ++ (tkC1 x.1.1) := by simp [flat]; rfl
    have e2 : (pre ++ [x]).length = pre.length + 1 := by simp
    rw [e1, e2]
    exact hj.drop (.cons _ (.cons _ (List.Sublist.refl _)))
 case done =>
  rintro Dd (xs : List (Tkn l.length)) W hD hS ⟨hall, hsz, v, hsl, hst⟩ hdef
  have hno : Dd ∉ own (.row v 175 3 xs.length (flat (xs.map fun t : Tkn l.length => t.1.1)) :: [.blk b4 128 [v], .blk b3 3 [iV 0], .blk b2 49 [iV 0], .blk b1 128 [.slice none 0 0]]) := fun h => by
   obtain ⟨cs, T, fz, h1⟩ := own_cells (celled_row (cel0 v)) hst h
   rw [hdef] at h1; cases h1
  have hlt : Dd < W.heap.size := (Array.getElem?_eq_some_iff.1 hdef).1
  have hlen : xs.length ≤ 65537 := by
   have h1 : (xs.map (·.1)).length ≤ l.length + 1 := by rw [hS]; exact Lx.stm_len _ _ _
   rw [List.length_map] at h1; omega
  have hscan : Lx.scan l = (xs.map (·.1.1), 0, 0) := by
   rw [Lx.scan_ok hc (fun y hy => by rw [← hS] at hy; obtain ⟨z, hz, rfl⟩ := List.mem_map.1 hy; exact hall z hz), ← hS, List.map_map]; rfl
  refine Post.go (J := St ⟨W, Ψ, own (.row v 175 3 xs.length (flat (xs.map fun t : Tkn l.length => t.1.1)) :: [.blk b4 128 [v], .blk b3 3 [iV 0], .blk b2 49 [iV 0], .blk b1 128 [.slice none 0 0]])⟩ Ψ (.row v 175 3 xs.length (flat (xs.map fun t : Tkn l.length => t.1.1)) :: [.blk b4 128 [v], .blk b3 3 [iV 0], .blk b2 49 [iV 0], .blk b1 128 [.slice none 0 0]])) ?_ ha.col hst.rebase
  refine Post.blk_n (PI.then_n (AI.seq (AI.region rfl hLO ?_)))
  refine g1 ?_
  refine RW.effn (J' := St ⟨W, Ψ, own (.row v 175 3 xs.length (flat (xs.map fun t : Tkn l.length => t.1.1)) :: [.blk b4 128 [v], .blk b3 3 [iV 0], .blk b2 49 [iV 0], .blk b1 128 [.slice none 0 0]])⟩ Ψ (.row v 175 3 xs.length (flat (xs.map fun t : Tkn l.length => t.1.1)) :: [.blk b4 128 [v], .blk b3 3 [iV 0], .blk b2 49 [iV 0], .blk b1 128 [v]])) (e_storeSl (v := v) 4 rfl rfl rfl hsl sz128 rfl rfl rfl) ?_
  refine g3 ?_
  refine PI.qn0 (PI.then_n (AI.ret ?_))
  refine fin_M1 (J' := St ⟨w, Φ, []⟩ Ψ (.row v 175 3 xs.length (flat (xs.map fun t : Tkn l.length => t.1.1)) :: [.blk b4 128 [v], .blk b3 3 [iV 0], .blk b2 49 [iV 0], .blk b1 128 [v]])) (vs := [v, iV 0, iV 0]) (fun w' hw' => (hw'.old Dd hlt hno).trans hdef)
   (fun w' hw' => StP.turned (celled_row (cel1 v v)) (hst.join hw') (grownBy_putObj' w' Dd _) (fun r e => by cases e; exact ⟨hD, _, (hw'.old Dd hlt hno).trans hdef, rfl⟩) hw2.size hΨ)
   rfl ⟨.one rfl (Cell.blk 4 rfl rfl), .one rfl (Cell.blk 3 rfl rfl), .one rfl (Cell.blk 2 rfl rfl), trivial⟩ rfl (fun w' hw => ?_)
  have := hfin _ _ v w' hw (by
   rw [hscan]
   exact RowS.repE evenTok (row_ext hw 0 rfl) (by simp) (by simp only [maxSl]; show xs.length * 32 ≤ _; omega) (fun y hy => by
    obtain ⟨z, hz, rfl⟩ := List.mem_map.1 hy
    obtain ⟨h1, h2, h3, h4, h5⟩ := z.2
    refine ⟨?_, ?_, ?_⟩ <;> (try unfold I64) <;> (try simp only [maxLen]) <;> omega))
  rw [hscan] at this
  exact this
 case stop =>
  rintro Dd c pre W hD hSp ⟨rfl, p0, x, rfl, hx, hst⟩ hdef
  have hno : Dd ∉ own [.blk b3 3 [iV x.1.1.At], .blk b2 49 [iV 2], .blk b1 128 [.slice none 0 0]] := fun h => by
   obtain ⟨cs, T, fz, h1⟩ := own_cells (celled_blk (celled_blk (celled_blk celled_nil))) hst h
   rw [hdef] at h1; cases h1
  have hlt : Dd < W.heap.size := (Array.getElem?_eq_some_iff.1 hdef).1
  have hscan : Lx.scan l = ([], 2, x.1.1.At) := Lx.scan_bad hc (y := x.1) (hSp.subset (List.mem_map.2 ⟨x, by simp, rfl⟩)) hx
  refine (?_ : AI Fence.wide 3 pg 24 [{ target := .collected Dd, args := #[] }] _ _ _ _ (St ⟨W, Ψ, own [.blk b3 3 [iV x.1.1.At], .blk b2 49 [iV 2], .blk b1 128 [.slice none 0 0]]⟩ Ψ [.blk b3 3 [iV x.1.1.At], .blk b2 49 [iV 2], .blk b1 128 [.slice none 0 0]])) _ W ha.col hst.rebase
  refine AI.ret (Post.blk_r (Post.then_r ?_))
  refine fin_M1 (J' := St ⟨w, Φ, []⟩ Ψ [.blk b3 3 [iV x.1.1.At], .blk b2 49 [iV 2], .blk b1 128 [.slice none 0 0]]) (vs := [.slice none 0 0, iV 2, iV x.1.1.At]) (fun w' hw' => (hw'.old Dd hlt hno).trans hdef)
   (fun w' hw' => StP.turned (celled_blk (celled_blk (celled_blk celled_nil))) (hst.join hw') (grownBy_putObj' w' Dd _) (fun r e => by cases e; exact ⟨hD, _, (hw'.old Dd hlt hno).trans hdef, rfl⟩) hw2.size hΨ)
   rfl ⟨.one rfl (Cell.blk 2 rfl rfl), .one rfl (Cell.blk 1 rfl rfl), .one rfl (Cell.blk 0 rfl rfl), trivial⟩ rfl (fun w' hw => ?_)
  have := hfin _ _ nS w' hw (by rw [hscan]; exact repSl_nil)
  rw [hscan] at this
  exact this
abbrev pcs (tv : Value) (toks : List Bt.Token) (z : Ru.S) : List Value := [tv, iV ((toks.length - z.1.length : Nat) : Int), iV z.2]
abbrev pA (p : Nat) (tv : Value) (toks : List Bt.Token) (z : Ru.S) : Chunk := .blk p 178 (pcs tv toks z)
theorem keyword_c (w : World) {l : List UInt8} : Calls pg 46 #[.string (bs l)] w fun e w' => e = .returned (.bool (Ru.kw l)) ∧ Bel w.heap.size w w' := by
 refine calls_of_AW (args := [.string (bs l)]) Tryz.func46 rfl (lBT rfl) (St ⟨w, hp w, []⟩ (hp w) []) (StP.init w (hp w) (Hp.le_refl _) []) ?_
 show AW _ _ [] _ _ _ [(0, .string (bs l))] _
 repeat refine g1 ?_
 refine RW.q (v := .bool (decide (l = Ru.sDef))) rfl (q_eqlStr rfl rfl) ?_
 repeat refine g1 ?_
 refine AW.orChS (t := 4) (x := 3) (a := l) rfl rfl _ rfl rfl rfl rfl fun f' => ?_
 repeat refine g1 ?_
 have hkw : (decide (l = Ru.sDef) || [(Ru.sInt, 6), (Ru.sBool, 7), (Ru.sWhen, 8), (Ru.sThen, 9), (Ru.sSet, 10), (Ru.sTo, 11), (Ru.sIf, 12), (Ru.sElse, 13), (Ru.sOr, 14), (Ru.sAnd, 15), (Ru.sNot, 16), (Ru.sTrue, 17), (Ru.sFalse, 18), (Ru.sVolume, 19), (Ru.sLevel, 20), (Ru.sOwned, 21), (Ru.sPos, 22), (Ru.sCrest, 23), (Ru.sHour, 24), (Ru.sDay, 25), (Ru.sMonth, 26)].any fun p => decide (l = p.1)) = Ru.kw l := by
  unfold Ru.kw
  rw [Bool.eq_iff_iff]
  simp only [List.any_cons, List.any_nil, Bool.or_false, Bool.or_eq_true, decide_eq_true_eq, List.contains_iff_mem, List.mem_cons, List.not_mem_nil, or_false]
 refine AW.cond rfl (fun h => ?_) fun h => ?_
 ·
  have h : Ru.kw l = true := hkw.symm.trans h
  repeat refine g1 ?_
  exact fin_res (vs := [.bool true]) rfl rfl ⟨.tmp rfl, trivial⟩ rfl (fun w' hw => ⟨by rw [h]; rfl, hw.below rfl⟩)
 ·
  have h : Ru.kw l = false := hkw.symm.trans h
  repeat refine g1 ?_
  exact fin_res (vs := [.bool false]) rfl rfl ⟨.tmp rfl, trivial⟩ rfl (fun w' hw => ⟨by rw [h]; rfl, hw.below rfl⟩)
section
variable (w : World) (Φ : Hp) {p : Nat} {tv : Value} {toks : List Bt.Token} {z : Ru.S}
end
open Ru (tr pB nC wfH wfK tr_fin0 tr_fin1 tr_fin2 tr_fin3 tr_fin2L)
end Go.Proofs.YtjmeeofdffdpnaaGreatDoor
namespace Go.Proofs.YtjmeeofdffdpnaaGreatDoor
open Go Go.K Go.RowKit
open Ru (tr pB nC wfH wfK tr_fin0 tr_fin1 tr_fin2 tr_fin3 tr_at tr_wf)
attribute [local irreducible] AW RW DW Post Qt
section
variable (w : World) (Φ : Hp) {p : Nat} {tv : Value} {toks : List Bt.Token} {z : Ru.S}
end
end Go.Proofs.YtjmeeofdffdpnaaGreatDoor
namespace Go.Proofs.YtjmeeofdffdpnaaGreatDoor
open Go Go.K Go.RowKit
open Ru (tr pB nC wfH wfK tr_fin0 tr_fin1 tr_fin2 tr_fin3 tr_at tr_wf tr_join1 tr_join2)
attribute [local irreducible] AW RW DW Post Qt
end Go.Proofs.YtjmeeofdffdpnaaGreatDoor
namespace Go.Proofs.YtjmeeofdffdpnaaGreatDoor
open Go Go.K Go.RowKit
open Ru (tr trs pB nC wfH wfK tr_fin0 tr_fin1 tr_fin2 tr_fin3 tr_at tr_wf)
attribute [local irreducible] AW RW DW Post Qt
section
variable {Φ : Hp} {p : Nat} {tv : Value} {toks : List Bt.Token}
end
section
variable {Φ : Hp} {p : Nat} {tv : Value} {toks : List Bt.Token}
end
section
variable {Φ : Hp} {p : Nat} {tv : Value} {toks : List Bt.Token}
end
end Go.Proofs.YtjmeeofdffdpnaaGreatDoor
namespace Ru
open Go Go.K Bt
structure OP (α : Type) where
 P : Hp → α → Nat → List Nat → Prop
 loc : ∀ {Φ Ψ : Hp} (x : α) (b : Nat) (F : List Nat), (∀ c ∈ F, Ψ c = Φ c) → P Φ x b F → P Ψ x b F
 dom : ∀ {Φ : Hp} (x : α) (b : Nat) (F : List Nat), P Φ x b F → ∀ c ∈ F, Φ c ≠ none
variable {α : Type} {o : OP α}
variable {B : Bs} {Φ Ψ : Hp} {C : List Chunk} {w : World}
abbrev prC (q : Prm) : List Value := [iV q.name.Kind, .string (bs q.name.Text), iV q.name.At, iV q.kind]
abbrev fC (nm : Token) (pv : Value) (r : Int) (bv : Value) : List Value := [iV nm.Kind, .string (bs nm.Text), iV nm.At, pv, iV r, bv]
abbrev cC (nm : Token) (cv vv : Value) : List Value := [iV nm.Kind, .string (bs nm.Text), iV nm.At, cv, vv]
def wfP (q : Prm) : Prop := wfK q.name ∧ (q.kind = 0 ∨ q.kind = 1)
def fnP : OP Bt.Fn where
 P := fun H x b F => ∃ pv bb G, H b = some (.cells (fC x.name pv x.result (pB bb)).toArray 188 (0, 0)) ∧ RowS H pv 196 4 x.params.length (x.params.flatMap prC) ∧ TrF H x.body bb G ∧ F = b :: (blks pv ++ G) ∧ wfK x.name ∧ (x.result = 0 ∨ x.result = 1) ∧ ∀ q ∈ x.params, wfP q
 loc := fun x b F h ⟨pv, bb, G, h1, h2, h3, h4, h5⟩ => by
  subst h4
  exact ⟨pv, bb, G, (h b (List.mem_cons_self ..)).trans h1, (Chunk.row pv 196 4 x.params.length (x.params.flatMap prC)).loc _ _ (fun c hc => h c (List.mem_cons_of_mem _ (List.mem_append_left _ hc))) h2, TrF.loc x.body bb G (fun c hc => h c (List.mem_cons_of_mem _ (List.mem_append_right _ hc))) h3, rfl, h5⟩
 dom := fun x b F ⟨pv, bb, G, h1, h2, h3, h4, h5⟩ c hc => by
  subst h4
  rcases List.mem_cons.1 hc with rfl | hc
  ·
   rw [h1]; simp
  ·
   rcases List.mem_append.1 hc with hc | hc
   ·
    exact (Chunk.row pv 196 4 x.params.length (x.params.flatMap prC)).dom _ h2 c hc
   ·
    exact TrF.dom x.body bb G h3 c hc
def clP : OP Bt.Cl where
 P := fun H x b F => ∃ bc bv G1 G2, H b = some (.cells (cC x.link (pB bc) (pB bv)).toArray 191 (0, 0)) ∧ TrF H x.cond bc G1 ∧ TrF H x.value bv G2 ∧ F = b :: (G1 ++ G2) ∧ wfK x.link
 loc := fun x b F h ⟨bc, bv, G1, G2, h1, h2, h3, h4, h5⟩ => by
  subst h4
  exact ⟨bc, bv, G1, G2, (h b (List.mem_cons_self ..)).trans h1, TrF.loc x.cond bc G1 (fun c hc => h c (List.mem_cons_of_mem _ (List.mem_append_left _ hc))) h2, TrF.loc x.value bv G2 (fun c hc => h c (List.mem_cons_of_mem _ (List.mem_append_right _ hc))) h3, rfl, h5⟩
 dom := fun x b F ⟨bc, bv, G1, G2, h1, h2, h3, h4, h5⟩ c hc => by
  subst h4
  rcases List.mem_cons.1 hc with rfl | hc
  ·
   rw [h1]; simp
  ·
   rcases List.mem_append.1 hc with hc | hc
   ·
    exact TrF.dom x.cond bc G1 h2 c hc
   ·
    exact TrF.dom x.value bv G2 h3 c hc
end Ru
namespace Go.Proofs.YtjmeeofdffdpnaaGreatDoor
open Go Go.K Go.RowKit
open Ru (tr trs pB nC wfH wfK wfP prC fC cC fnP clP)
attribute [local irreducible] AW RW DW Post Qt
section
variable {Φ : Hp} {p : Nat} {tv : Value} {toks : List Bt.Token}
end
section
variable {Φ : Hp} {p : Nat} {tv : Value} {toks : List Bt.Token}
end
end Go.Proofs.YtjmeeofdffdpnaaGreatDoor
namespace Go.Proofs.YtjmeeofdffdpnaaGreatDoor
open Go Go.K Go.RowKit
open Ru (tr trs pB nC wfH wfK wfP prC fC cC fnP clP)
theorem run_equalNil {P : Program} {t : TypeId} {ms} (n : Nat) (hT : P.underlying t = some (.interface ms)) (w : World) : (Op.equalIn (n + 1) t .nilIface .nilIface).run P w = .ok true w := by
 simp [Op.equalIn, run_underlying hT]
theorem run_equalIface {P : Program} {t T : TypeId} {v : Value} {ms} (n : Nat) (hT : P.underlying t = some (.interface ms)) (w : World) : (Op.equalIn (n + 1) t (.iface T v) .nilIface).run P w = .ok false w := by
 simp [Op.equalIn, run_underlying hT]
theorem q_neqNil {J : Cls} {f : Nat → Value} {s : List (Nat × Value)} {dst : Option Nat} {ty : TypeId} {pos : String} {af : Array Edge} {g : Option (Nat × Bool)} {x : Operand} (hx : ev (fr f s) x = .nilIface) : Qt pg J f s ⟨dst, .binOp .neq 20 x (.const .nilIface) 20, ty, pos, af, g⟩ (.bool false) := qt_val fun w _ => by
 have h1 : pg.underlying 20 = some (.interface #[]) := uT20
 have hy : ev (fr f s) (.const .nilIface) = .nilIface := rfl
 have he : ∀ w, (Op.equal 20 .nilIface .nilIface).run pg w = .ok true w := fun w => run_equalNil 9999 h1 w
 simp [execOp, hx, hy, eqGuard, binOp, he]
theorem q_neqIface {J : Cls} {f : Nat → Value} {s : List (Nat × Value)} {dst : Option Nat} {ty : TypeId} {pos : String} {af : Array Edge} {g : Option (Nat × Bool)} {x : Operand} {T : TypeId} {v : Value} (hx : ev (fr f s) x = .iface T v) : Qt pg J f s ⟨dst, .binOp .neq 20 x (.const .nilIface) 20, ty, pos, af, g⟩ (.bool true) := qt_val fun w _ => by
 have h1 : pg.underlying 20 = some (.interface #[]) := uT20
 have hy : ev (fr f s) (.const .nilIface) = .nilIface := rfl
 have he : ∀ w, (Op.equal 20 (.iface T v) .nilIface).run pg w = .ok false w := fun w => run_equalIface 9999 h1 w
 simp [execOp, hx, hy, eqGuard, binOp, he]
theorem q_assertT {J : Cls} {f : Nat → Value} {s : List (Nat × Value)} {dst : Option Nat} {ty : TypeId} {pos : String} {af : Array Edge} {g : Option (Nat × Bool)} {x : Operand} {T xT : TypeId} {v : Value} [h : NI pg T] (hx : ev (fr f s) x = .iface T v) : Qt pg J f s ⟨dst, .typeAssert x xT T true, ty, pos, af, g⟩ (.tuple #[v, .bool true]) := qt_val fun w _ => by
 obtain ⟨d, h1, h2⟩ := h.h
 cases d <;> first | (cases h2; done) | simp [execOp, hx, Instr.typeAssert, run_underlying h1]
attribute [local irreducible] AW RW DW Post Qt
section
variable {c5 c4 c3 c2 p : Nat} {cs2 : List Value} {v3 v4 tv q : Value} {wr : Int}
end
end Go.Proofs.YtjmeeofdffdpnaaGreatDoor
namespace Ru
open Go Go.K Bt
end Ru
namespace Go.Proofs.YtjmeeofdffdpnaaGreatDoor
open Go Go.K Go.RowKit
open Ru (tr trs pB nC TrF)
attribute [local irreducible] AW RW DW Post Qt
end Go.Proofs.YtjmeeofdffdpnaaGreatDoor
namespace Go.Proofs.YtjmeeofdffdpnaaGreatDoor
open Go Go.K Go.RowKit
attribute [local irreducible] AW RW DW Post Qt
end Go.Proofs.YtjmeeofdffdpnaaGreatDoor
namespace Ru
open Bt Pa
def ar (k : Int) (m : Nat) : Prop := 0 ≤ k ∧ k ≤ 15 ∧ (k = 0 ∨ k = 1 ∨ k = 15 → m = 0) ∧ (k = 2 ∨ k = 3 → m = 1) ∧ (4 ≤ k ∧ k ≤ 12 → m = 2) ∧ (k = 13 → m = 3)
def sh : Nd → Prop
  | ⟨k, n, o, q, _, _, _, ks⟩ => ar k ks.length ∧ o = 0 ∧ q = 0 ∧ (2 ≤ k → n = 0) ∧ (k = 1 → 0 ≤ n ∧ n ≤ 7) ∧ (k = 0 → 0 ≤ n ∧ n ≤ 1125899906842624) ∧ shL ks
where shL : List Nd → Prop
  | [] => True
  | x :: xs => sh x ∧ shL xs
abbrev shL := sh.shL
def nn : Nd → Nat
  | ⟨_, _, _, _, _, _, _, ks⟩ => nnL ks + 1
where nnL : List Nd → Nat
  | [] => 0
  | x :: xs => nn x + nnL xs
def okF (n : Nat) (f : Fn) : Prop := ((∀ q ∈ f.params, q.kind = 0 ∨ q.kind = 1) ∧ f.params.length ≤ n) ∧ (f.result = 0 ∨ f.result = 1) ∧ sh f.body ∧ nn f.body ≤ 3 * n
end Ru
namespace Ru
open Go Go.K Bt
def Tl (H : Hp) (ts : List Nd) (l : List Nat) : Prop := l.length = ts.length ∧ ∀ j (hj : j < ts.length), ∃ b F, l[j]? = some b ∧ TrF H ts[j] b F
theorem take_snoc {α : Type} {l : List α} {i : Nat} (h : i < l.length) : l.take (i + 1) = l.take i ++ [l[i]] := by
 rw [List.take_add_one, List.getElem?_eq_getElem h]; rfl
end Ru
namespace Go.Proofs.YtjmeeofdffdpnaaGreatDoor
open Go Go.K Go.RowKit
open Ru (tr trs pB nC TrF fC cC fnP clP Tl)
attribute [local irreducible] AW RW DW Post Qt
end Go.Proofs.YtjmeeofdffdpnaaGreatDoor
namespace Go.K
open Go Go.RowKit
variable {B : Bs} {Φ Ψ : Hp} {C : List Chunk} {W W' w : World}
def MkR {ζ : Type} (w : World) (V : ζ → Value) (K : ζ → List Chunk) : Ending → World → Prop := fun e w' => ∃ z, e = .returned (V z) ∧ StP ⟨w, hp w, []⟩ (hp w) (K z) w'
theorem StP.tell {E : List Nat} {Φ0 : Hp} (h : StP ⟨w, Φ0, E⟩ Ψ C W) (hl : Hp.le Φ Ψ) : StP ⟨w, Φ, E⟩ Φ C W := { h.less hl with orig := fun _ _ e _ => e }
theorem StP.made {K : List Chunk} (h : StP B Φ C w) (k : StP ⟨w, hp w, []⟩ (hp w) K W) : StP B Φ (K ++ C) W := StP.frameL (A := []) h (StP.tell k h.phi)
theorem e_mk {P : Program} {Pn : List PanicEntry → World → Prop} {f : Nat → Value} {s : List (Nat × Value)} {dst : Option Nat} {ty : TypeId} {pos : String} {af : Array Edge} {g : Option (Nat × Bool)} {ζ : Type} {V : ζ → Value} {K : ζ → List Chunk}
  {x : Operand} {xs : Array Operand} {ts : Array TypeId} {k : FuncId} {first capt args : Array Value} (hk : Own P k) (hx : ev (fr f s) x = .func (.func k) first capt) (ha : first.toList ++ xs.toList.map (ev (fr f s)) ++ capt.toList = args.toList)
  (h : ∀ w, StP B Φ C w → Calls P k args w (MkR w V K)) :
  ∀ w, (St B Φ C).p w → effX P Pn (fun v w' => ∃ z : ζ, v = V z ∧ (St B Φ (K z ++ C)).p w') ((execOp (ev (fr f s)) ⟨dst, .call { callee := .value x, args := xs, argTypes := ts }, ty, pos, af, g⟩).run P w) :=
 e_call (V := V) (J' := fun z => St B Φ (K z ++ C)) hk hx ha fun w hw => (h w hw).mono fun _ _ ⟨z, h1, h2⟩ => ⟨z, h1, StP.made hw h2⟩
theorem RW.mk {P : Program} {N : Nat} {D : List Deferred} {ops : Array Oper} {Q : Exit → Act → World → Prop} {Pn : List PanicEntry → World → Prop} [hQ : PanQ D Q Pn] {f : Nat → Value} {s : List (Nat × Value)} {d : Nat} {ty : TypeId} {pos : String} {af : Array Edge} {rest : List Oper} {ζ : Type} {V : ζ → Value} {K : ζ → List Chunk}
  {x : Operand} {xs : Array Operand} {ts : Array TypeId} {k : FuncId} {first capt args : Array Value} (hd : Nat.blt d N = true) (hk : Own P k) (hx : ev (fr f s) x = .func (.func k) first capt) (ha : first.toList ++ xs.toList.map (ev (fr f s)) ++ capt.toList = args.toList)
  (h : ∀ w, StP B Φ C w → Calls P k args w (MkR w V K))
  (kk : ∀ z, RW P N D ops Q rest f ((d, V z) :: s) (St B Φ (K z ++ C))) : RW P N D ops Q (⟨some d, .call { callee := .value x, args := xs, argTypes := ts }, ty, pos, af, none⟩ :: rest) f s (St B Φ C) :=
 RW.eff _ _ hd (e_mk hk hx ha h) kk
end Go.K
namespace Ru
open Go Go.K Bt
theorem ix_snoc (l : List (List UInt8)) (a t : List UInt8) : ix (l ++ [a]) t = (ix l t).or (if a = t then some l.length else none) := by
 unfold ix
 rw [List.findIdx?_append]
 congr 1
 by_cases h : a = t <;> simp [h]
def ixM (l : List (List UInt8)) (t : List UInt8) : Option Int := Option.map (Nat.cast : Nat → Int) (ix l t)
theorem ixM_new {l : List (List UInt8)} {a : List UInt8} (h : ixM l a = none) : (fun j => if j = a then some (l.length : Int) else ixM l j) = ixM (l ++ [a]) := by
 funext j
 have h0 : ix l a = none := by unfold ixM at h; exact Option.map_eq_none_iff.1 h
 unfold ixM at *
 rw [ix_snoc]
 by_cases hj : j = a
 ·
  subst hj; simp [h0]
 ·
  rw [if_neg hj, if_neg (Ne.symm hj), Option.or_none]
theorem ixM_old {l : List (List UInt8)} {a : List UInt8} (h : (ixM l a).isSome = true) : ixM (l ++ [a]) = ixM l := by
 funext j
 have h0 : (ix l a).isSome = true := by unfold ixM at h; rwa [Option.isSome_map] at h
 unfold ixM
 rw [ix_snoc]
 by_cases hj : a = j
 ·
  subst hj
  obtain ⟨n, hn⟩ := Option.isSome_iff_exists.1 h0
  simp [hn]
 ·
  rw [if_neg hj, Option.or_none]
structure NmS (Φ : Hp) (v : Value) (sz : Nat) (ns : List (List UInt8)) : Prop where
 sl : IsSl v ns.length
 at_ : ∀ i (h : i < ns.length), PCell Φ (Value.at v (i * sz)) (.string (bs ns[i]))
 len : ∀ n ∈ ns, n.length ≤ maxLen
 big : ns.length ≤ 9223372036854775807
theorem NmS.mono {Φ Ψ : Hp} {v : Value} {sz : Nat} {ns : List (List UInt8)} (h : NmS Φ v sz ns) (hl : Hp.le Φ Ψ) : NmS Ψ v sz ns := ⟨h.sl, fun i hi => (h.at_ i hi).mono hl, h.len, h.big⟩
structure BasV where
 nm : List UInt8
 ov : Value
 ce : Int
 pv : Value
 lv : Value
 tv : Value
 gv : Value
 rv : Value
 sv : Value
 mv : Value
 er : Int
abbrev BasV.cs (b : BasV) : List Value := [.string (bs b.nm), b.ov, iV b.ce, b.pv, b.lv, b.tv, b.gv, b.rv, b.sv, b.mv, iV b.er]
structure BasV.ok (Φ : Hp) (b : BasV) (e : Env) : Prop where
 o : NmS Φ b.ov 1 e.owners
 p : NmS Φ b.pv 12 e.places
 l : NmS Φ b.lv 18 e.links
 t : NmS Φ b.tv 7 e.towns
theorem BasV.ok.mono {Φ Ψ : Hp} {b : BasV} {e : Env} (h : b.ok Φ e) (hl : Hp.le Φ Ψ) : b.ok Ψ e := ⟨h.o.mono hl, h.p.mono hl, h.l.mono hl, h.t.mono hl⟩
end Ru
namespace Go.Proofs.YtjmeeofdffdpnaaGreatDoor
open Go Go.K Go.RowKit
open Ru (tr trs pB nC TrF fC cC fnP clP Tl NmS BasV ixM)
attribute [local irreducible] AW RW DW Post Qt
noncomputable def kStr : KL pg 9 (List UInt8) := KL.of (Maps.string_keyed uT9) (fun l => .string (bs l)) (fun l => l.length ≤ maxLen) (fun h => bs_inj (by simpa using h)) fun a ha => ⟨_, WideMaps.keyOf_string_mk uT9 (by rw [bs_size]; exact ha)⟩
noncomputable abbrev tab (b : Nat) (ns : List (List UInt8)) : Chunk := .kmap kStr (Value.int .i64) b (ixM ns)
theorem indices_c (w : World) {ns : List (List UInt8)} {k bb : Nat} (hk : Go.K.Own pg k) (hlen : ∀ n ∈ ns, n.length ≤ maxLen) (hbig : ns.length ≤ 9223372036854775807) (hname : ∀ w1, Hp.le (hp w) (hp w1) → ∀ i (hi : i < ns.length), Calls pg k #[iV (i : Int), pB bb] w1 fun e w' => e = .returned (.string (bs ns[i])) ∧ Bel w1.heap.size w1 w') :
  Calls pg 103 #[iV (ns.length : Int), .func (.func k) #[] #[pB bb]] w (MkR w (fun b : Nat => .map (some b)) fun b => [tab b ns]) := by
 refine calls_of_AW (args := [iV (ns.length : Int), .func (.func k) #[] #[pB bb]]) Tryz.func103 rfl (lBT rfl) (St ⟨w, hp w, []⟩ (hp w) []) (StP.init w (hp w) (Hp.le_refl _) []) ?_
 show AW _ _ [] _ _ _ [(0, iV (ns.length : Int)), (1, .func (.func k) #[] #[pB bb])] _
 repeat refine gs1 ?_
 refine RW.eff _ _ rfl (e_kmake kStr (Value.int .i64)) fun mb => ?_
 repeat refine gs1 ?_
 refine AW.loop (fun s J q => ∃ i : Nat, s = [(1, .func (.func k) #[] #[pB bb]), (5, .map (some mb)), (10, iV (ns.length : Int)), (11, iV (i : Int))] ∧ J = St ⟨w, hp w, []⟩ (hp w) [tab mb (ns.take i)] ∧ q = ns.length - i ∧ i ≤ ns.length) (s0 := _) (J1 := _) (m0 := _) ⟨0, rfl, rfl, rfl, by omega⟩ ⟨rfl, rfl, rfl, rfl, trivial⟩ (fun _ h => h) ?_
 rintro _ _ _ _ ⟨i, rfl, rfl, rfl, hi⟩
 repeat refine gs1 ?_
 refine AW.cond rfl (fun h => ?_) fun h => ?_
 ·
  have h : i < ns.length := by have := odT h; omega
  have hg : kStr.good ns[i] := hlen _ (List.getElem_mem h)
  repeat refine gs1 ?_
  refine RW.q rfl (q_call (args := #[iV (i : Int), pB bb]) hk rfl rfl (fun w1 hw1 => hname w1 hw1.phi i h)) (RW.q rfl (q_kLook (d := (0 : Int)) (k := ns[i]) 0 rfl rfl rfl hg uT141 zero3) ?_)
  repeat refine gs1 ?_
  refine AW.cond rfl (fun h2 => ?_) fun h2 => ?_
  ·
   have h2 : ixM (ns.take i) ns[i] = none := by
    cases hq : ixM (ns.take i) ns[i] with
    | none => rfl
    | some x => rw [hq] at h2; cases h2
   repeat refine gs1 ?_
   refine RW.q rfl (q_call (args := #[iV (i : Int), pB bb]) hk rfl rfl (fun w1 hw1 => hname w1 hw1.phi i h)) ?_
   repeat refine gs1 ?_
   refine RW.effn (e_kPut (k := ns[i]) (v := (i : Int)) 0 rfl rfl rfl rfl hg uT141 rfl) ?_
   repeat refine gs1 ?_
   have hM := Ru.ixM_new h2
   rw [List.length_take, Nat.min_eq_left hi, ← Ru.take_snoc h] at hM
   exact Post.back (s' := _) (J' := _) (m' := _) (by omega) ⟨i + 1, rfl, rfl, rfl, by omega⟩ ⟨rfl, rfl, rfl, rfl, trivial⟩ (fun w2 h => by unfold tab; rw [← hM]; exact h)
  ·
   have h2 : (ixM (ns.take i) ns[i]).isSome = true := by simpa using h2
   repeat refine gs1 ?_
   have hM := Ru.ixM_old h2
   rw [← Ru.take_snoc h] at hM
   exact Post.back (s' := _) (J' := _) (m' := _) (by omega) ⟨i + 1, rfl, rfl, rfl, by omega⟩ ⟨rfl, rfl, rfl, rfl, trivial⟩ (fun w2 h => by unfold tab; rw [hM]; exact h)
 ·
  have h : i = ns.length := by have := odF h; omega
  subst h
  repeat refine gs1 ?_
  exact fin_res (vs := [.map (some mb)]) rfl rfl ⟨.tmp rfl, trivial⟩ rfl (fun w' hw => ⟨mb, rfl, by have := hw; rw [List.take_length] at this; exact this⟩)
structure RsB where
 r : Nat
 m1 : Nat
 m2 : Nat
 m3 : Nat
 m4 : Nat
 m5 : Nat
end Go.Proofs.YtjmeeofdffdpnaaGreatDoor
namespace Go.K
open Go Go.RowKit
section
variable {P : Program} {N : Nat} {D : List Deferred} {ops : Array Oper} {Q : Exit → Act → World → Prop} {f : Nat → Value} {s : List (Nat × Value)} {J : Cls} {α : Type} {J' : α → Cls}
end
end Go.K
namespace Ru
open Go Go.K Bt
section
variable {B : Bs} {Φ : Hp} {C : List Chunk} {w : World}
end
end Ru
namespace Ru
open Go Go.K Bt
end Ru
namespace Ru
open Go Go.K Bt
end Ru
namespace Go.Proofs.YtjmeeofdffdpnaaGreatDoor
open Go Go.K Go.RowKit
open Ru (tr trs pB nC TrF fC cC fnP clP Tl NmS BasV ixM wfH)
attribute [local irreducible] AW RW DW Post Qt
section
variable {e : Ru.Env} {fs ps : List (List UInt8)} {k n o q a : Int} {nm ow : Bt.Token} {Φ : Hp} {z : RsB}
end
end Go.Proofs.YtjmeeofdffdpnaaGreatDoor
namespace Go.K
open Go Go.RowKit
section
variable {P : Program} {N : Nat} {D : List Deferred} {ops : Array Oper} {Q : Exit → Act → World → Prop} {f : Nat → Value} {s : List (Nat × Value)} {B : Bs} {Φ : Hp} {C : List Chunk}
theorem RW.frzX {l : List Oper} {c : Chunk} (hE : ∀ b ∈ B.E, ∃ c2 ∈ C, b ∈ c2.fp) (k : ∀ Φ', Hp.le Φ Φ' → c.sat Φ' → RW P N D ops Q l f s (St B Φ' C)) : RW P N D ops Q l f s (St B Φ (c :: C)) := fun a w ha hw => by
 obtain ⟨Φ', h1, h2, h3⟩ := StP.freezeX hw hE
 exact k Φ' h1 h2 a w ha h3
end
end Go.K
namespace Ru
open Go Go.K Bt
section
variable {B : Bs} {Φ : Hp} {C : List Chunk} {w : World} {α : Type} {o : OP α}
end
end Ru
namespace Go.Proofs.YtjmeeofdffdpnaaGreatDoor
open Go Go.K Go.RowKit
open Ru (tr trs pB nC TrF fC cC prC fnP clP Tl NmS BasV ixM wfH)
attribute [local irreducible] AW RW DW Post Qt
end Go.Proofs.YtjmeeofdffdpnaaGreatDoor
namespace Ru
open Go Go.K Bt
def okT (nf np : Nat) : Nd → Prop
 | ⟨k, n, _, _, _, _, _, ks⟩ => ar k ks.length ∧ (k = 15 → 0 ≤ n ∧ n < np) ∧ (k = 14 → 0 ≤ n ∧ n < nf) ∧ okTL nf np ks
where okTL (nf np : Nat) : List Nd → Prop
 | [] => True
 | x :: xs => okT nf np x ∧ okTL nf np xs
end Ru
namespace Go.Proofs.YtjmeeofdffdpnaaGreatDoor
open Go Go.K Go.RowKit
open Ru (tr trs pB nC TrF fC cC prC fnP clP Tl NmS BasV ixM wfH okT)
attribute [local irreducible] AW RW DW Post Qt
abbrev tC (fv cv : Value) (a : Int) : List Value := [fv, cv, iV a]
section
variable {fs : List Bt.Fn} {fv cv : Value} {t : Nat} {Φ : Hp}
abbrev tB (fv cv : Value) (t : Nat) (a : Int) : Chunk := .blk t 145 (tC fv cv a)
end
end Go.Proofs.YtjmeeofdffdpnaaGreatDoor
namespace Ru
open Bt
variable {fs : List Bt.Fn} {ps : List Bt.Prm} {k n a b at_ : Int} {nm ow : Bt.Token} {ks : List Bt.Nd}
end Ru
namespace Go.Proofs.YtjmeeofdffdpnaaGreatDoor
open Go Go.K Go.RowKit
open Ru (tr trs pB nC TrF fC cC prC fnP clP Tl NmS BasV ixM wfH okT)
attribute [local irreducible] AW RW DW Post Qt
section
variable {fs : List Bt.Fn} {fv cv : Value} {t : Nat} {Φ : Hp}
end
end Go.Proofs.YtjmeeofdffdpnaaGreatDoor
namespace Ru
open Bt Pa
variable {P : Int → Prop}
end Ru
namespace Ru
open Bt Pa
end Ru
namespace Go.Proofs.YtjmeeofdffdpnaaGreatDoor
open Go Go.K Go.RowKit
open Ru (tr trs pB nC TrF fC cC prC fnP clP Tl NmS BasV ixM wfH okT)
attribute [local irreducible] AW RW DW Post Qt
theorem repSl_nil {α : Type} [Rep α] {Ψ : Hp} : RepSl Ψ ([] : List α) nS := ⟨isSl_nil, by show 0 * _ ≤ maxSl; rw [Nat.zero_mul]; exact Nat.zero_le _, fun i hi => by cases hi⟩
end Go.Proofs.YtjmeeofdffdpnaaGreatDoor
