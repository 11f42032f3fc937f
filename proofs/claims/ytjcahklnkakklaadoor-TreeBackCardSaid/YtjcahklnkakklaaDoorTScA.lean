/- The lexer's iterator keeps its contract: it hands over the tokens, each once, up to the first offset at which there is none. Conditions: those of each theorem. -/
import Derived.Test.YtjcahklnkakklaaDoorTLxB
import Derived.Test.YtjcahklnkakklaaDoorTRnd
namespace Go.Proofs.YtjcahklnkakklaaDoor
open Go Go.K Go.RowKit
set_option maxRecDepth 8000
set_option maxHeartbeats 1000000
attribute [local irreducible] AW RW DW Post Qt
instance : Rep Bt.Token where
 sz := 3
 bytes := 32
 rep := fun _ x cs => cs = [iV x.Kind, .string (bs x.Text), iV x.At] ∧ (I64 x.Kind ∧ x.Text.length ≤ maxLen ∧ I64 x.At)
 len := fun h => by rw [h.1]; rfl
 mono := fun _ h => h
 one := fun h u hu => by
  rw [h.1] at hu
  simp only [List.mem_cons, List.not_mem_nil, or_false] at hu
  rcases hu with rfl | rfl | rfl <;> rfl
instance : RepE Bt.Token where
 cells := fun x => [iV x.Kind, .string (bs x.Text), iV x.At]
 wf := fun x => I64 x.Kind ∧ x.Text.length ≤ maxLen ∧ I64 x.At
 iff := Iff.rfl
theorem evenTok : EvenE Bt.Token := fun _ => rfl
/-- what is handed over: a token, whether it is one -/
abbrev Tkn (N : Nat) := {x : Bt.Token × Bool // Lx.wfT N x.1}
def tkV (x : Bt.Token) : Value := .agg #[iV x.Kind, .string (bs x.Text), iV x.At]
def encT {N : Nat} (x : Tkn N) : Array Value := #[tkV x.1.1, .bool x.1.2]
theorem pcell_same {B1 : Nat} {w w' : World} {v : Value} (h : w'.heap[B1]? = w.heap[B1]?) (hp : PCell (hp w) ⟨B1, 0, none⟩ v) : PCell (K.hp w') ⟨B1, 0, none⟩ v := by
 obtain ⟨cs, T, fz, h1, h2, h3⟩ := hp
 exact ⟨cs, T, fz, h.trans h1, h2, h3⟩
set_option maxRecDepth 8000 in
set_option maxHeartbeats 2000000 in
theorem tokens1_stops {n : Nat} {l : List UInt8} (hl : l.length ≤ 65536) {B1 : Nat} {w : World} (hp1 : PCell (hp w) ⟨B1, 0, none⟩ (.string (bs l))) :
  SeqStopsK Fence.wide n Tryd.prog 39 #[.pointer (some ⟨B1, 0, none⟩)] (encT (N := l.length)) (fun W W' => W'.heap[B1]? = W.heap[B1]?) (fun xs => xs.map (·.1) = Lx.seqT l) (fun xs => xs.map (·.1) <+: Lx.seqT l) (l.length + 2) w := by
 intro l0 J Jx W hW hJ hJx hY h00
 have hp2 : PCell (hp W) ⟨B1, 0, none⟩ (.string (bs l)) := pcell_same (hW.block B1 (by obtain ⟨cs, T, fz, h1, _⟩ := hp1; exact (Array.getElem?_eq_some_iff.1 h1).1)) hp1
 have hK : ∀ Φ Ψ : Hp, Hp.le Φ Ψ → PCell Φ ⟨B1, 0, none⟩ (.string (bs l)) → PCell Ψ ⟨B1, 0, none⟩ (.string (bs l)) := fun _ _ h k => k.mono h
 have hK0 : ∀ Φ Ψ : Hp, Hp.le Φ Ψ → True → True := fun _ _ _ _ => trivial
 have hcell : ∀ x, Cell (Jc J (fun Φ => PCell Φ ⟨B1, 0, none⟩ (.string (bs l))) hJ hK x) ⟨B1, 0, none⟩ (.string (bs l)) := fun x w hw => hw.2.cell
 refine callsIn_of_AI (args := [.func (.yield l0) #[] #[], .pointer (some ⟨B1, 0, none⟩)]) Tryd.func39 rfl trivial (Nat.le_of_ble_eq_true rfl) rfl (Jc J (fun Φ => PCell Φ ⟨B1, 0, none⟩ (.string (bs l))) hJ hK []) ⟨h00, hp2⟩ ?_
 generalize hR : (fun (e : Ending) W' => (∃ v, e = .returned v) ∧ ((∃ xs : List (Tkn l.length), xs.map (·.1) = Lx.seqT l ∧ J xs W') ∨ (∃ pre : List (Tkn l.length), pre.map (·.1) <+: Lx.seqT l ∧ Jx pre W'))) = R
 have hRt : ∀ xs : List (Tkn l.length), xs.map (·.1) = Lx.seqT l → ∀ v W', J xs W' → R (.returned v) W' := fun xs h1 v W' h2 => by rw [← hR]; exact ⟨⟨_, rfl⟩, .inl ⟨xs, h1, h2⟩⟩
 have hRf : ∀ xs : List (Tkn l.length), xs.map (·.1) <+: Lx.seqT l → ∀ v W', Jx xs W' → R (.returned v) W' := fun xs h1 v W' h2 => by rw [← hR]; exact ⟨⟨_, rfl⟩, .inr ⟨xs, h1, h2⟩⟩
 have hLO : ¬ LetsOut (bodyPost Tryd.prog Tryd.f39 R) := fun ⟨_, _, h⟩ => by
  have h' : R .outgrown _ := h
  rw [← hR] at h'
  obtain ⟨⟨v, hv⟩, _⟩ := h'
  cases hv
 show AI _ _ Tryd.prog 37 [] _ _ _ [(0, .func (.yield l0) #[] #[]), (1, .pointer (some ⟨B1, 0, none⟩))] _
 have hs0 := Lx.skp_le false l
 refine AI.seq (AI.seq (AI.region rfl hLO ?_))
 refine RW.q rfl (qa_ld rfl (hcell [])) ?_
 refine RW.q (v := iV ((0 + Lx.skp false (l.drop 0) : Nat) : Int)) rfl (q_call (args := #[.string (bs l), iV ((0 : Nat) : Int)]) own40 rfl rfl (fun w1 _ => skip_c w1 (K.hp w1) (Hp.le_refl _) (by omega) (by omega))) ?_
 refine g2 ?_
 refine PI.qn0 (PI.then_n (AI.block (AI.loop (fun s J' m => ∃ (pre : List (Tkn l.length)) (a fu : Nat), s = [(0, .func (.yield l0) #[] #[]), (1, .pointer (some ⟨B1, 0, none⟩)), (3, iV (a : Int))] ∧ J' = Jc J (fun Φ => PCell Φ ⟨B1, 0, none⟩ (.string (bs l))) hJ hK pre ∧ m = l.length - a ∧ a ≤ l.length ∧ l.length - a < fu ∧ pre.map (·.1) ++ Lx.stm fu l a = Lx.seqT l ∧ pre.length + fu ≤ l.length + 1)
  (s0 := _) (J1 := _) (m0 := _) ⟨[], 0 + Lx.skp false (l.drop 0), l.length + 1, rfl, rfl, rfl, by simpa using hs0, by omega, by simp [Lx.seqT], by simp⟩ ⟨rfl, rfl, rfl, trivial⟩ (fun _ h => h) ?_)))
 rintro _ _ _ _ ⟨pre, a, fu, rfl, rfl, rfl, ha, hfu, hpre, hpl⟩
 refine AI.seq (AI.seq (AI.region rfl hLO ?_))
 refine g1 ?_
 refine RW.q rfl (qa_ld rfl (hcell pre)) ?_
 refine RW.q rfl (q_lenS (l := l) rfl uT9) ?_
 refine g2 ?_
 obtain ⟨fv, rfl⟩ : ∃ fv, fu = fv + 1 := ⟨fu - 1, by omega⟩
 refine PI.qn0 (PI.then_n (AI.cond rfl (fun hc => ?_) fun hc => ?_))
 ·
  have hc : a < l.length := by simpa using hc
  have hld : (l.drop a).length = l.length - a := List.length_drop
  refine AI.skip (PI.then_n (AI.block (AI.seq (AI.base fun w1 hw1 => AI.region rfl hLO ?_))))
  refine RW.q rfl (qa_ld rfl (Cell.phi hw1.2)) ?_
  refine g1 ?_
  refine RW.q (v := .tuple #[.agg #[iV (((Lx.tk (l.drop a)).1 : Nat) : Int), .string (bs (Lx.txt (l.drop a))), iV (a : Int)], iV ((a + (Lx.tk (l.drop a)).2.2.2.1 : Nat) : Int), .bool (Lx.tk (l.drop a)).2.2.2.2]) rfl (q_call (args := #[.string (bs l), iV (a : Int)]) own41 rfl rfl (fun w1 _ => token_c w1 (K.hp w1) (Hp.le_refl _) (by omega) (by omega))) ?_
  refine g4 ?_
  refine RW.alc rfl fun b4 => ?_
  refine g4 ?_
  refine PI.qn0 (PI.then_n (AI.seq (AI.seq (AI.regionK 3 rfl hLO ?_))))
  refine g4 ?_
  let x : Tkn l.length := ⟨(⟨((Lx.tk (l.drop a)).1 : Nat), Lx.txt (l.drop a), (a : Nat)⟩, (Lx.tk (l.drop a)).2.2.2.2), Lx.wf_tok (by omega)⟩
  refine PI.yield hLO rfl rfl rfl (args := encT x) rfl (J' := fun b => if b then Jc J (fun Φ => PCell Φ ⟨B1, 0, none⟩ (.string (bs l))) hJ hK (pre ++ [x]) else Jc Jx (fun _ => True) hJx hK0 (pre ++ [x])) (fun w2 hw2 => ?_) (fun b => ?_)
  ·
   have hw3 := st_Jc (hJ := hJ) (hK := hK) hw1 hw2
   obtain ⟨fn, tmps, assign, body, hy, hr⟩ := hY pre x w2 hw3.1 (by omega)
   refine ⟨fn, tmps, assign, body, hy, hr.mono fun e w3 he => ?_⟩
   rcases he with ⟨he, h1, h2⟩ | ⟨he, h1⟩
   ·
    exact ⟨true, he, h1, pcell_same h2 hw3.2⟩
   ·
    exact ⟨false, he, h1, trivial⟩
  ·
   cases b with
   | false =>
    refine g2 ?_
    refine RW.g (b := true) (v := undef) rfl rfl rfl (fun h => nomatch h) ?_
    refine RW.g (b := true) (v := undef) rfl rfl rfl (fun h => nomatch h) ?_
    refine RW.q (v := .bool true) rfl (q_pick (t := true) rfl (fun _ => rfl) (fun hp => nomatch hp)) ?_
    refine g1 ?_
    refine PI.qn0 (PI.then_n (AI.cond (b := true) rfl (fun _ => AI.ret ?_) (fun h => nomatch h)))
    refine g5 ?_
    refine fin_none rfl rfl (fun _ h => h) fun w3 hw3 => hRf (pre ++ [x]) ?_ _ _ hw3.1
    rw [← hpre]
    cases hk : (Lx.tk (l.drop a)).2.2.2.2 with
    | true => rw [Lx.stm_tok hc hk]; simp [x, hk]
    | false => rw [Lx.stm_bad hc hk]; simp [x, hk]
   | true =>
    refine g2 ?_
    refine RW.gl (v := .bool (Lx.tk (l.drop a)).2.2.2.2) rfl rfl rfl (q_move rfl) ?_
    refine RW.gl (v := .bool (!(Lx.tk (l.drop a)).2.2.2.2)) rfl rfl rfl (q_not rfl) ?_
    refine RW.q (v := .bool (!(Lx.tk (l.drop a)).2.2.2.2)) rfl (q_pick (t := false) rfl (fun hp => nomatch hp) (fun _ => rfl)) ?_
    refine g1 ?_
    refine PI.qn0 (PI.then_n (AI.cond rfl (fun hk => AI.ret ?_) fun hk => AI.skip (PI.then_n (AI.region rfl hLO ?_))))
    ·
     have hk : (Lx.tk (l.drop a)).2.2.2.2 = false := by simpa using hk
     refine g5 ?_
     refine fin_none rfl rfl (fun _ h => h) fun w3 hw3 => hRt (pre ++ [x]) ?_ _ _ hw3.1
     rw [← hpre, Lx.stm_bad hc hk]; simp [x, hk]
    ·
     have hk : (Lx.tk (l.drop a)).2.2.2.2 = true := by simpa using hk
     obtain ⟨hu1, hu2⟩ := Lx.tk_ok (l := l.drop a) (by omega) hk
     have hs1 := Lx.skp_le false (l.drop (a + (Lx.tk (l.drop a)).2.2.2.1))
     rw [List.length_drop] at hs1
     refine RW.q rfl (qa_ld rfl (hcell (pre ++ [x]))) ?_
     refine g1 ?_
     refine RW.q (v := iV ((a + (Lx.tk (l.drop a)).2.2.2.1 + Lx.skp false (l.drop (a + (Lx.tk (l.drop a)).2.2.2.1)) : Nat) : Int)) rfl (q_call (args := #[.string (bs l), iV ((a + (Lx.tk (l.drop a)).2.2.2.1 : Nat) : Int)]) own40 rfl rfl (fun w1 _ => skip_c w1 (K.hp w1) (Hp.le_refl _) (by omega) (by omega))) ?_
     refine g2 ?_
     refine PI.qn0 ?_
     refine Post.blk_n ?_
     exact Post.back (s' := _) (J' := _) (m' := _) (by omega) ⟨pre ++ [x], a + (Lx.tk (l.drop a)).2.2.2.1 + Lx.skp false (l.drop (a + (Lx.tk (l.drop a)).2.2.2.1)), fv, rfl, rfl, rfl, by omega, by omega, by rw [← hpre, Lx.stm_tok hc hk]; simp [x, hk], by simp; omega⟩ ⟨rfl, rfl, rfl, trivial⟩ (fun _ h => h)
 ·
  have hc : l.length ≤ a := by simpa using hc
  refine AI.exit (Post.then_x (Post.then_x (Post.blk_hit (PI.then_n (AI.regionK 4 rfl hLO ?_)))))
  refine g1 ?_
  refine RW.q rfl (qa_ld rfl (hcell pre)) ?_
  refine RW.q rfl (q_lenS (l := l) rfl uT9) ?_
  refine RW.q (v := .agg #[iV 4, .string (bs []), iV (l.length : Int)]) rfl (q_build (vals := [(0, iV 4), (2, iV (l.length : Int))]) zero39 uT39 places39 rfl rfl) ?_
  refine g1 ?_
  let x : Tkn l.length := ⟨(⟨4, [], l.length⟩, true), Lx.wf_end l⟩
  have hx : (pre ++ [x]).map (·.1) = Lx.seqT l := by rw [← hpre, Lx.stm_end hc]; simp [x]
  refine PI.yield hLO rfl rfl rfl (args := encT x) rfl (J' := fun b => if b then Jc J (fun _ => True) hJ hK0 (pre ++ [x]) else Jc Jx (fun _ => True) hJx hK0 (pre ++ [x])) (fun w2 hw2 => ?_) (fun b => ?_)
  ·
   obtain ⟨fn, tmps, assign, body, hy, hr⟩ := hY pre x w2 hw2.1 (by omega)
   refine ⟨fn, tmps, assign, body, hy, hr.mono fun e w3 he => ?_⟩
   rcases he with ⟨he, h1, h2⟩ | ⟨he, h1⟩
   ·
    exact ⟨true, he, h1, trivial⟩
   ·
    exact ⟨false, he, h1, trivial⟩
  ·
   cases b with
   | false =>
    refine g1 ?_
    refine PI.qn0 ?_
    exact fin_none rfl rfl (fun _ h => h) fun w3 hw3 => hRf (pre ++ [x]) (by rw [hx]; exact List.prefix_refl _) _ _ hw3.1
   | true =>
    refine g1 ?_
    refine PI.qn0 ?_
    exact fin_none rfl rfl (fun _ h => h) fun w3 hw3 => hRt (pre ++ [x]) hx _ _ hw3.1
end Go.Proofs.YtjcahklnkakklaaDoor
