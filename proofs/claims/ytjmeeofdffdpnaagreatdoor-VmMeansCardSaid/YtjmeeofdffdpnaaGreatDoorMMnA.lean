/- Lemmas. Conditions: those of each theorem. -/
import Derived.Test.YtjmeeofdffdpnaaGreatDoorMVmP
import Derived.Test.YtjmeeofdffdpnaaGreatDoorMOwnG
import Derived.Test.YtjmeeofdffdpnaaGreatDoorMDrz
import Derived.Test.YtjmeeofdffdpnaaGreatDoorMLibB
set_option maxRecDepth 8000
set_option maxHeartbeats 16000000
namespace Ru
open Go Go.K Bt
abbrev pB (b : Nat) : Value := .pointer (some ⟨b, 0, none⟩)
abbrev nC (k n o q a : Int) (nm ow : Token) (kv : Value) : List Value := [iV k, iV n, iV o, iV q, iV a, iV nm.Kind, .string (bs nm.Text), iV nm.At, iV ow.Kind, .string (bs ow.Text), iV ow.At, kv]
def wfK (t : Token) : Prop := I64 t.Kind ∧ t.Text.length ≤ 65536 ∧ I64 t.At
def wfH (k n o q a : Int) (nm ow : Token) : Prop := I64 k ∧ I64 n ∧ I64 o ∧ I64 q ∧ I64 a ∧ wfK nm ∧ wfK ow
def TrF (H : Hp) : Nd → Nat → List Nat → Prop
 | ⟨k, n, o, q, a, nm, ow, ks⟩, b, F => ∃ kv l G, H b = some (.cells (nC k n o q a nm ow kv).toArray 194 (0, 0)) ∧ RowS H kv 186 1 ks.length (l.map pB) ∧ TrL H ks l G ∧ F = b :: (blks kv ++ G) ∧ wfH k n o q a nm ow
where TrL (H : Hp) : List Nd → List Nat → List Nat → Prop
 | [], l, F => l = [] ∧ F = []
 | x :: xs, l, F => ∃ b l2 F1 F2, l = b :: l2 ∧ F = F1 ++ F2 ∧ TrF H x b F1 ∧ TrL H xs l2 F2
abbrev TrL := TrF.TrL
mutual
theorem TrF.loc {Φ Ψ : Hp} : ∀ (x : Nd) (b : Nat) (F : List Nat), (∀ b ∈ F, Ψ b = Φ b) → TrF Φ x b F → TrF Ψ x b F
 | ⟨k, n, o, q, a, nm, ow, ks⟩, b, F, h, ⟨kv, l, G, h1, h2, h3, h4, h5⟩ => by
  subst h4
  refine ⟨kv, l, G, (h b (List.mem_cons_self ..)).trans h1, ?_, TrL.loc ks l G (fun b hb => h b (List.mem_cons_of_mem _ (List.mem_append_right _ hb))) h3, rfl, h5⟩
  exact (Chunk.row kv 186 1 ks.length (l.map pB)).loc Φ Ψ (fun b hb => h b (List.mem_cons_of_mem _ (List.mem_append_left _ hb))) h2
theorem TrL.loc {Φ Ψ : Hp} : ∀ (xs : List Nd) (l F : List Nat), (∀ b ∈ F, Ψ b = Φ b) → TrL Φ xs l F → TrL Ψ xs l F
 | [], _, _, _, h => h
 | x :: xs, l, F, h, ⟨b, l2, F1, F2, h1, h2, h3, h4⟩ => by
  subst h2
  exact ⟨b, l2, F1, F2, h1, rfl, TrF.loc x b F1 (fun b hb => h b (List.mem_append_left _ hb)) h3, TrL.loc xs l2 F2 (fun b hb => h b (List.mem_append_right _ hb)) h4⟩
end
mutual
theorem TrF.dom {Φ : Hp} : ∀ (x : Nd) (b : Nat) (F : List Nat), TrF Φ x b F → ∀ c ∈ F, Φ c ≠ none
 | ⟨k, n, o, q, a, nm, ow, ks⟩, b, F, ⟨kv, l, G, h1, h2, h3, h4, h5⟩, c, hc => by
  subst h4
  rcases List.mem_cons.1 hc with rfl | hc
  ·
   rw [h1]; simp
  ·
   rcases List.mem_append.1 hc with hc | hc
   ·
    exact (Chunk.row kv 186 1 ks.length (l.map pB)).dom Φ h2 c hc
   ·
    exact TrL.dom ks l G h3 c hc
theorem TrL.dom {Φ : Hp} : ∀ (xs : List Nd) (l F : List Nat), TrL Φ xs l F → ∀ c ∈ F, Φ c ≠ none
 | [], l, F, h, c, hc => by rw [h.2] at hc; cases hc
 | x :: xs, l, F, ⟨b, l2, F1, F2, h1, h2, h3, h4⟩, c, hc => by
  subst h2
  rcases List.mem_append.1 hc with hc | hc
  ·
   exact TrF.dom x b F1 h3 c hc
  ·
   exact TrL.dom xs l2 F2 h4 c hc
end
theorem TrL.app {H : Hp} : ∀ {xs ys : List Nd} {l m F G : List Nat}, TrL H xs l F → TrL H ys m G → TrL H (xs ++ ys) (l ++ m) (F ++ G)
 | [], _, _, _, _, _, h, k => by rw [h.1, h.2]; exact k
 | _ :: _, _, _, _, _, _, ⟨b, l2, F1, F2, h1, h2, h3, h4⟩, k => ⟨b, _, F1, _, by rw [h1, List.cons_append], by rw [h2, List.append_assoc], h3, TrL.app h4 k⟩
def tr (x : Nd) (b : Nat) (F : List Nat) : Chunk := ⟨F, fun H => TrF H x b F ∧ F.Nodup, fun _ _ h hs => ⟨TrF.loc x b F h hs.1, hs.2⟩, fun _ hs => TrF.dom x b F hs.1⟩
def trs (xs : List Nd) (l F : List Nat) : Chunk := ⟨F, fun H => TrL H xs l F ∧ F.Nodup, fun _ _ h hs => ⟨TrL.loc xs l F h hs.1, hs.2⟩, fun _ hs => TrL.dom xs l F hs.1⟩
variable {B : Bs} {Φ Ψ : Hp} {C : List Chunk} {w : World}
theorem blks_nodup (v : Value) : (blks v).Nodup := by
 unfold blks; split <;> simp
theorem tr_join {k n o q a : Int} {nm ow : Token} {ks : List Nd} {b : Nat} {G l : List Nat} {kv : Value} (hwf : wfH k n o q a nm ow) (h : StP B Φ (.blk b 194 (nC k n o q a nm ow kv) :: .row kv 186 1 ks.length (l.map pB) :: trs ks l G :: C) w) :
  StP B Φ (tr ⟨k, n, o, q, a, nm, ow, ks⟩ b (b :: (blks kv ++ G)) :: C) w := by
 have h1 := h.sat _ (List.mem_cons_self ..)
 have h2 := h.sat _ (List.mem_cons_of_mem _ (List.mem_cons_self ..))
 have h3 := h.sat _ (List.mem_cons_of_mem _ (List.mem_cons_of_mem _ (List.mem_cons_self ..)))
 obtain ⟨s1, s2⟩ := List.pairwise_cons.1 h.sep
 obtain ⟨s3, _⟩ := List.pairwise_cons.1 s2
 refine StP.recut (C1 := [.blk b 194 (nC k n o q a nm ow kv), .row kv 186 1 ks.length (l.map pB), trs ks l G]) (C2 := [tr ⟨k, n, o, q, a, nm, ow, ks⟩ b (b :: (blks kv ++ G))]) h ?_ (List.pairwise_singleton ..) ?_
 ·
  intro c hc
  obtain rfl := List.mem_singleton.1 hc
  refine ⟨⟨kv, l, G, h1, h2, h3.1, rfl, hwf⟩, List.nodup_cons.2 ⟨fun hm => ?_, List.nodup_append.2 ⟨blks_nodup kv, h3.2, fun c hc d hd e => ?_⟩⟩⟩
  ·
   rcases List.mem_append.1 hm with hm | hm
   ·
    exact s1 _ (List.mem_cons_self ..) b (List.mem_singleton.2 rfl) hm
   ·
    exact s1 _ (List.mem_cons_of_mem _ (List.mem_cons_self ..)) b (List.mem_singleton.2 rfl) hm
  ·
   subst e
   exact s3 _ (List.mem_cons_self ..) c hc hd
 ·
  intro c hc
  simpa [Chunk.blk, Chunk.row, trs, tr] using hc
theorem trs_nil (h : StP B Φ C w) : StP B Φ (trs [] [] [] :: C) w :=
 StP.recut (C1 := []) (C2 := [trs [] [] []]) h (fun c hc => by obtain rfl := List.mem_singleton.1 hc; exact ⟨⟨rfl, rfl⟩, List.nodup_nil⟩) (List.pairwise_singleton ..) (fun c hc => by simp [trs] at hc)
theorem trs_one {x : Nd} {b : Nat} {F : List Nat} (h : StP B Φ (tr x b F :: C) w) : StP B Φ (trs [x] [b] F :: C) w :=
 StP.recut (C1 := [tr x b F]) (C2 := [trs [x] [b] F]) h (fun c hc => by
  obtain rfl := List.mem_singleton.1 hc
  obtain ⟨h1, h2⟩ := h.sat _ (List.mem_cons_self ..)
  exact ⟨⟨b, [], F, [], rfl, (List.append_nil _).symm, h1, rfl, rfl⟩, h2⟩) (List.pairwise_singleton ..) (fun c hc => by simpa [trs, tr] using hc)
theorem trs_app {xs ys : List Nd} {l m F G : List Nat} (h : StP B Φ (trs xs l F :: trs ys m G :: C) w) : StP B Φ (trs (xs ++ ys) (l ++ m) (F ++ G) :: C) w :=
 StP.recut (C1 := [trs xs l F, trs ys m G]) (C2 := [trs (xs ++ ys) (l ++ m) (F ++ G)]) h (fun c hc => by
  obtain rfl := List.mem_singleton.1 hc
  obtain ⟨h1, h2⟩ := h.sat _ (List.mem_cons_self ..)
  obtain ⟨h3, h4⟩ := h.sat _ (List.mem_cons_of_mem _ (List.mem_cons_self ..))
  refine ⟨TrL.app h1 h3, List.nodup_append.2 ⟨h2, h4, fun c hc d hd e => ?_⟩⟩
  subst e
  exact (List.pairwise_cons.1 h.sep).1 _ (List.mem_cons_self ..) c hc hd) (List.pairwise_singleton ..) (fun c hc => by simpa [trs, tr] using hc)
theorem tr_join0 {k n o q a : Int} {nm ow : Token} {b : Nat} (hwf : wfH k n o q a nm ow) (h : StP B Φ (.blk b 194 (nC k n o q a nm ow nS) :: C) w) :
  StP B Φ (tr ⟨k, n, o, q, a, nm, ow, []⟩ b [b] :: C) w :=
 tr_join (kv := .slice none 0 0) (ks := []) (l := []) (G := []) hwf ((addNil (T := 186) (sz := 1) (trs_nil h)).perm (List.perm_middle (l₁ := [_, _])).symm)
theorem tr_join1 {k n o q a : Int} {nm ow : Token} {x : Nd} {b b1 : Nat} {F1 : List Nat} {kv : Value} (hwf : wfH k n o q a nm ow) (h : StP B Φ (.blk b 194 (nC k n o q a nm ow kv) :: .row kv 186 1 1 [pB b1] :: tr x b1 F1 :: C) w) :
  ∃ F, StP B Φ (tr ⟨k, n, o, q, a, nm, ow, [x]⟩ b F :: C) w :=
 ⟨_, tr_join (ks := [x]) (l := [b1]) hwf ((trs_one (h.perm (List.perm_middle (l₁ := [_, _])).symm)).perm (List.perm_middle (l₁ := [_, _])))⟩
theorem tr_join2 {k n o q a : Int} {nm ow : Token} {x y : Nd} {b b1 b2 : Nat} {F1 F2 : List Nat} {kv : Value} (hwf : wfH k n o q a nm ow) (h : StP B Φ (.blk b 194 (nC k n o q a nm ow kv) :: .row kv 186 1 2 [pB b1, pB b2] :: tr x b1 F1 :: tr y b2 F2 :: C) w) :
  ∃ F, StP B Φ (tr ⟨k, n, o, q, a, nm, ow, [x, y]⟩ b F :: C) w := by
 have h1 := trs_one (h.perm (List.perm_middle (l₁ := [_, _])).symm)
 have h2 := trs_one (h1.perm (List.perm_middle (l₁ := [_, _, _])).symm)
 have h3 := trs_app (h2.perm (List.Perm.swap _ _ _))
 exact ⟨_, tr_join (ks := [x, y]) (l := [b1, b2]) hwf (h3.perm (List.perm_middle (l₁ := [_, _])))⟩
theorem tr_join3 {k n o q a : Int} {nm ow : Token} {x y z : Nd} {b b1 b2 b3 : Nat} {F1 F2 F3 : List Nat} {kv : Value} (hwf : wfH k n o q a nm ow) (h : StP B Φ (.blk b 194 (nC k n o q a nm ow kv) :: .row kv 186 1 3 [pB b1, pB b2, pB b3] :: tr x b1 F1 :: tr y b2 F2 :: tr z b3 F3 :: C) w) :
  ∃ F, StP B Φ (tr ⟨k, n, o, q, a, nm, ow, [x, y, z]⟩ b F :: C) w := by
 have h1 := trs_one (h.perm (List.perm_middle (l₁ := [_, _])).symm)
 have h2 := trs_one (h1.perm (List.perm_middle (l₁ := [_, _, _])).symm)
 have h3 := trs_app (h2.perm (List.Perm.swap _ _ _))
 have h4 := trs_one (h3.perm (List.perm_middle (l₁ := [_, _, _])).symm)
 have h5 := trs_app (h4.perm (List.Perm.swap _ _ _))
 exact ⟨_, tr_join (ks := [x, y, z]) (l := [b1, b2, b3]) hwf (h5.perm (List.perm_middle (l₁ := [_, _])))⟩
theorem tr_fin0 {k n o q a : Int} {nm ow : Token} {b : Nat} {cp : Chunk} (is : List Nat) (hn : is.Nodup) (hi : is.map (C[·]?) = [some (.blk b 194 (nC k n o q a nm ow nS)), some cp]) (hwf : wfH k n o q a nm ow) (h : StP B Φ C w) :
  ∃ F, StP B Φ [cp, tr ⟨k, n, o, q, a, nm, ow, []⟩ b F] w :=
 ⟨_, (tr_join0 hwf (h.sel (C' := [.blk b 194 (nC k n o q a nm ow nS), cp]) is hn hi)).sel [1, 0] (by decide) rfl⟩
theorem tr_fin1 {k n o q a : Int} {nm ow : Token} {x : Nd} {b b1 : Nat} {F1 : List Nat} {kv : Value} {cp : Chunk} (is : List Nat) (hn : is.Nodup) (hi : is.map (C[·]?) = [some (.blk b 194 (nC k n o q a nm ow kv)), some (.row kv 186 1 1 [pB b1]), some (tr x b1 F1), some cp]) (hwf : wfH k n o q a nm ow) (h : StP B Φ C w) :
  ∃ F, StP B Φ [cp, tr ⟨k, n, o, q, a, nm, ow, [x]⟩ b F] w := by
 obtain ⟨F, hF⟩ := tr_join1 hwf (h.sel (C' := [.blk b 194 (nC k n o q a nm ow kv), .row kv 186 1 1 [pB b1], tr x b1 F1, cp]) is hn hi)
 exact ⟨F, hF.sel [1, 0] (by decide) rfl⟩
theorem tr_fin2 {k n o q a : Int} {nm ow : Token} {x y : Nd} {b b1 b2 : Nat} {F1 F2 : List Nat} {kv : Value} {cp : Chunk} (is : List Nat) (hn : is.Nodup) (hi : is.map (C[·]?) = [some (.blk b 194 (nC k n o q a nm ow kv)), some (.row kv 186 1 2 [pB b1, pB b2]), some (tr x b1 F1), some (tr y b2 F2), some cp]) (hwf : wfH k n o q a nm ow) (h : StP B Φ C w) :
  ∃ F, StP B Φ [cp, tr ⟨k, n, o, q, a, nm, ow, [x, y]⟩ b F] w := by
 obtain ⟨F, hF⟩ := tr_join2 hwf (h.sel (C' := [.blk b 194 (nC k n o q a nm ow kv), .row kv 186 1 2 [pB b1, pB b2], tr x b1 F1, tr y b2 F2, cp]) is hn hi)
 exact ⟨F, hF.sel [1, 0] (by decide) rfl⟩
theorem tr_fin3 {k n o q a : Int} {nm ow : Token} {x y z : Nd} {b b1 b2 b3 : Nat} {F1 F2 F3 : List Nat} {kv : Value} {cp : Chunk} (is : List Nat) (hn : is.Nodup) (hi : is.map (C[·]?) = [some (.blk b 194 (nC k n o q a nm ow kv)), some (.row kv 186 1 3 [pB b1, pB b2, pB b3]), some (tr x b1 F1), some (tr y b2 F2), some (tr z b3 F3), some cp]) (hwf : wfH k n o q a nm ow) (h : StP B Φ C w) :
  ∃ F, StP B Φ [cp, tr ⟨k, n, o, q, a, nm, ow, [x, y, z]⟩ b F] w := by
 obtain ⟨F, hF⟩ := tr_join3 hwf (h.sel (C' := [.blk b 194 (nC k n o q a nm ow kv), .row kv 186 1 3 [pB b1, pB b2, pB b3], tr x b1 F1, tr y b2 F2, tr z b3 F3, cp]) is hn hi)
 exact ⟨F, hF.sel [1, 0] (by decide) rfl⟩
theorem tr_fin2L {k n o q a k1 n1 o1 q1 a1 k2 n2 o2 q2 a2 : Int} {nm ow nm1 ow1 nm2 ow2 : Token} {b b1 b2 : Nat} {kv : Value} (is : List Nat) (hn : is.Nodup)
  (hi : is.map (C[·]?) = [some (.blk b 194 (nC k n o q a nm ow kv)), some (.row kv 186 1 2 [pB b1, pB b2]), some (.blk b1 194 (nC k1 n1 o1 q1 a1 nm1 ow1 nS)), some (.blk b2 194 (nC k2 n2 o2 q2 a2 nm2 ow2 nS))]) (hwf : wfH k n o q a nm ow) (hw1 : wfH k1 n1 o1 q1 a1 nm1 ow1) (hw2 : wfH k2 n2 o2 q2 a2 nm2 ow2) (h : StP B Φ C w) :
  ∃ F, StP B Φ [tr ⟨k, n, o, q, a, nm, ow, [⟨k1, n1, o1, q1, a1, nm1, ow1, []⟩, ⟨k2, n2, o2, q2, a2, nm2, ow2, []⟩]⟩ b F] w := by
 have h0 := h.sel (C' := [.blk b 194 (nC k n o q a nm ow kv), .row kv 186 1 2 [pB b1, pB b2], .blk b1 194 (nC k1 n1 o1 q1 a1 nm1 ow1 nS), .blk b2 194 (nC k2 n2 o2 q2 a2 nm2 ow2 nS)]) is hn hi
 have h1 := tr_join0 hw1 (h0.sel (C' := [.blk b1 194 (nC k1 n1 o1 q1 a1 nm1 ow1 nS), .blk b 194 (nC k n o q a nm ow kv), .row kv 186 1 2 [pB b1, pB b2], .blk b2 194 (nC k2 n2 o2 q2 a2 nm2 ow2 nS)]) [2, 0, 1, 3] (by decide) rfl)
 have h2 := tr_join0 hw2 (h1.sel (C' := [.blk b2 194 (nC k2 n2 o2 q2 a2 nm2 ow2 nS), tr ⟨k1, n1, o1, q1, a1, nm1, ow1, []⟩ b1 [b1], .blk b 194 (nC k n o q a nm ow kv), .row kv 186 1 2 [pB b1, pB b2]]) [3, 0, 1, 2] (by decide) rfl)
 exact tr_join2 hwf (h2.sel (C' := [.blk b 194 (nC k n o q a nm ow kv), .row kv 186 1 2 [pB b1, pB b2], tr ⟨k1, n1, o1, q1, a1, nm1, ow1, []⟩ b1 [b1], tr ⟨k2, n2, o2, q2, a2, nm2, ow2, []⟩ b2 [b2]]) [2, 3, 1, 0] (by decide) rfl)
theorem tr_at {x : Nd} {b : Nat} {F : List Nat} (i : Nat) (hi : C[i]? = some (tr x b F)) : Cell (St B Φ C) ⟨b, 4, none⟩ (iV x.At) := fun w hw => by
 obtain ⟨k, n, o, q, a, nm, ow, ks⟩ := x
 obtain ⟨⟨kv, l, G, h1, _⟩, _⟩ := hw.sat _ (List.mem_of_getElem? hi)
 exact (cell_of_hp h1).trans rfl
theorem tr_wf {x : Nd} {b : Nat} {F : List Nat} {w : World} (i : Nat) (hi : C[i]? = some (tr x b F)) (hw : StP B Φ C w) : wfH x.Kind x.n x.of_ x.of2 x.At x.name x.owner := by
 obtain ⟨k, n, o, q, a, nm, ow, ks⟩ := x
 obtain ⟨⟨kv, l, G, _, _, _, _, h5⟩, _⟩ := hw.sat _ (List.mem_of_getElem? hi)
 exact h5
end Ru
namespace Go.Proofs.YtjmeeofdffdpnaaGreatDoor
open Go Go.K Go.RowKit
def wfE (x : Bt.Expr) : Prop := I64 x.Kind ∧ I64 x.N ∧ I64 x.Of ∧ I64 x.Of2
abbrev exC (x : Bt.Expr) (v : Value) : List Value := [iV x.Kind, iV x.N, iV x.Of, iV x.Of2, v]
mutual
def rpE (Φ : Hp) : Bt.Expr → List Value → Prop
 | ⟨k, n, o, q, ks⟩, cs => ∃ v css, cs = exC ⟨k, n, o, q, ks⟩ v ∧ wfE ⟨k, n, o, q, ks⟩ ∧ IsSl v ks.length ∧ ks.length * 56 ≤ maxSl ∧ rpX Φ ks css ∧ ∀ i c, css[i]? = some c → ∀ j u, c[j]? = some u → PCell Φ (Value.at v (i * 5 + j)) u
def rpX (Φ : Hp) : List Bt.Expr → List (List Value) → Prop
 | [], css => css = []
 | x :: xs, css => ∃ c cs, css = c :: cs ∧ rpE Φ x c ∧ rpX Φ xs cs
end
mutual
theorem rpE_mono {Φ Ψ : Hp} (hl : Hp.le Φ Ψ) : ∀ (x : Bt.Expr) (cs : List Value), rpE Φ x cs → rpE Ψ x cs
 | ⟨k, n, o, q, ks⟩, cs, h => by
  unfold rpE at h ⊢
  obtain ⟨v, css, h1, h2, h3, h4, h5, h6⟩ := h
  exact ⟨v, css, h1, h2, h3, h4, rpX_mono hl ks css h5, fun i c hc j u hj => (h6 i c hc j u hj).mono hl⟩
theorem rpX_mono {Φ Ψ : Hp} (hl : Hp.le Φ Ψ) : ∀ (xs : List Bt.Expr) (css : List (List Value)), rpX Φ xs css → rpX Ψ xs css
 | [], css, h => by unfold rpX at h ⊢; exact h
 | x :: xs, css, h => by
  unfold rpX at h ⊢
  obtain ⟨c, cs, h1, h2, h3⟩ := h
  exact ⟨c, cs, h1, rpE_mono hl x c h2, rpX_mono hl xs cs h3⟩
end
theorem rpX_iff {Φ : Hp} : ∀ {xs : List Bt.Expr} {css : List (List Value)}, rpX Φ xs css ↔ css.length = xs.length ∧ ∀ i (h : i < xs.length), ∃ c, css[i]? = some c ∧ rpE Φ xs[i] c
 | [], css => by
  unfold rpX
  exact ⟨fun h => by subst h; exact ⟨rfl, fun i h => by cases h⟩, fun h => List.length_eq_zero_iff.1 h.1⟩
 | x :: xs, css => by
  unfold rpX
  constructor
  ·
   rintro ⟨c, cs, rfl, h1, h2⟩
   obtain ⟨h3, h4⟩ := rpX_iff.1 h2
   refine ⟨by simp [h3], fun i hi => ?_⟩
   cases i with
   | zero => exact ⟨c, rfl, h1⟩
   | succ i => simpa using h4 i (by simpa using hi)
  ·
   rintro ⟨h1, h2⟩
   match css, h1 with
   | c :: cs, h1 =>
    obtain ⟨c', hc, hx⟩ := h2 0 (by simp)
    obtain rfl : c = c' := by simpa using hc
    refine ⟨c, cs, rfl, hx, rpX_iff.2 ⟨by simpa using h1, fun i hi => ?_⟩⟩
    obtain ⟨c', h5, h6⟩ := h2 (i + 1) (by simpa using hi)
    exact ⟨c', by simpa using h5, h6⟩
theorem rpE_ex {Φ : Hp} {x : Bt.Expr} {cs : List Value} (h : rpE Φ x cs) : ∃ v, cs = exC x v ∧ wfE x ∧ IsSl v x.Kids.length ∧ x.Kids.length * 56 ≤ maxSl ∧ ∃ css, rpX Φ x.Kids css ∧ ∀ i c, css[i]? = some c → ∀ j u, c[j]? = some u → PCell Φ (Value.at v (i * 5 + j)) u := by
 obtain ⟨k, n, o, q, ks⟩ := x
 unfold rpE at h
 obtain ⟨v, css, h1, h2, h3, h4, h5, h6⟩ := h
 exact ⟨v, h1, h2, h3, h4, css, h5, h6⟩
theorem isSl_one {v : Value} {n : Nat} (h : IsSl v n) : v.oneCell' = true := by obtain ⟨A, c, rfl, _⟩ := h; rfl
instance : Rep Bt.Expr where
 sz := 5
 bytes := 56
 rep := rpE
 len := fun h => by obtain ⟨v, h1, _⟩ := rpE_ex h; rw [h1]; rfl
 mono := fun hl h => rpE_mono hl _ _ h
 one := fun h u hu => by
  obtain ⟨v, h1, _, h3, _⟩ := rpE_ex h
  rw [h1] at hu
  simp only [exC, List.mem_cons, List.not_mem_nil, or_false] at hu
  rcases hu with rfl | rfl | rfl | rfl | rfl
  ·
   rfl
  ·
   rfl
  ·
   rfl
  ·
   rfl
  ·
   exact isSl_one h3
theorem repE' {Φ : Hp} {x : Bt.Expr} {cs : List Value} : Rep.rep Φ x cs ↔ ∃ v, cs = exC x v ∧ wfE x ∧ RepSl Φ x.Kids v := by
 constructor
 ·
  intro h
  obtain ⟨v, h1, h2, h3, h4, css, h5, h6⟩ := rpE_ex h
  refine ⟨v, h1, h2, h3, h4, fun i hi => ?_⟩
  obtain ⟨c, h7, h8⟩ := (rpX_iff.1 h5).2 i hi
  exact ⟨c, h8, fun j u hj => h6 i c h7 j u hj⟩
 ·
  rintro ⟨v, h1, h2, h3⟩
  obtain ⟨k, n, o, q, ks⟩ := x
  show rpE Φ _ _
  unfold rpE
  refine ⟨v, (List.range ks.length).map fun i => if h : i < ks.length then Classical.choose (h3.at_ i h) else [], h1, h2, h3.sl, h3.max, rpX_iff.2 ⟨by simp, fun i hi => ⟨_, ?_, (Classical.choose_spec (h3.at_ i hi)).1⟩⟩, fun i c hc j u hj => ?_⟩
  ·
   simp [hi]
  ·
   by_cases hi : i < ks.length
   ·
    simp only [List.getElem?_map, List.getElem?_range hi, Option.map_some, dif_pos hi, Option.some.injEq] at hc
    subst hc
    exact (Classical.choose_spec (h3.at_ i hi)).2 j u hj
   ·
    rw [List.getElem?_eq_none (by simpa using hi)] at hc; cases hc
abbrev rfC (x : Bt.RFunc) (pv v : Value) : List Value := .string (bs x.Name) :: pv :: iV x.Result :: exC x.Body v
abbrev rcC (x : Bt.RClause) (u v : Value) : List Value := exC x.If u ++ iV x.Link :: exC x.To v
theorem exC_one {x : Bt.Expr} {v : Value} (h : v.oneCell' = true) : ∀ u ∈ exC x v, u.oneCell' = true := by
 intro u hu
 simp only [exC, List.mem_cons, List.not_mem_nil, or_false] at hu
 rcases hu with rfl | rfl | rfl | rfl | rfl
 all_goals first | rfl | exact h
instance : Rep Bt.RFunc where
 sz := 8
 bytes := 104
 rep := fun Φ x cs => ∃ pv v, cs = rfC x pv v ∧ x.Name.length ≤ maxLen ∧ RepSl Φ x.Params pv ∧ I64 x.Result ∧ wfE x.Body ∧ RepSl Φ x.Body.Kids v
 len := fun ⟨pv, v, h, _⟩ => by rw [h]; rfl
 mono := fun hl ⟨pv, v, h1, h2, h3, h4, h5, h6⟩ => ⟨pv, v, h1, h2, h3.mono hl, h4, h5, h6.mono hl⟩
 one := fun ⟨pv, v, h1, h2, h3, h4, h5, h6⟩ u hu => by
  rw [h1] at hu
  simp only [rfC, List.mem_cons] at hu
  rcases hu with rfl | rfl | rfl | hu
  ·
   rfl
  ·
   exact isSl_one h3.sl
  ·
   rfl
  ·
   exact exC_one (x := ‹Bt.RFunc›.Body) (isSl_one h6.sl) u (by simpa using hu)
instance : Rep Bt.RClause where
 sz := 11
 bytes := 120
 rep := fun Φ x cs => ∃ u v, cs = rcC x u v ∧ wfE x.If ∧ RepSl Φ x.If.Kids u ∧ I64 x.Link ∧ wfE x.To ∧ RepSl Φ x.To.Kids v
 len := fun ⟨pv, v, h, _⟩ => by rw [h]; rfl
 mono := fun hl ⟨u, v, h1, h2, h3, h4, h5, h6⟩ => ⟨u, v, h1, h2, h3.mono hl, h4, h5, h6.mono hl⟩
 one := fun ⟨a, v, h1, h2, h3, h4, h5, h6⟩ u hu => by
  rw [h1] at hu
  rcases List.mem_append.1 hu with hu | hu
  ·
   exact exC_one (isSl_one h3.sl) u hu
  ·
   rcases List.mem_cons.1 hu with rfl | hu
   ·
    rfl
   ·
    exact exC_one (isSl_one h6.sl) u hu
open Ru (pB)
attribute [local irreducible] AW RW DW Post Qt
abbrev opC (o : Vm.Op) : List Value := [.int .i64 o.Kind, .int .i64 o.A, .int .i64 o.B]
abbrev coK (bc : Nat) (kv : Value) (xs : List Vm.Op) : List Chunk := [.blk bc 78 [kv], .row kv 56 3 xs.length (xs.flatMap opC)]
theorem opC_len : ∀ (l : List Vm.Op), (l.flatMap opC).length = l.length * 3
  | [] => rfl
  | a :: l => by rw [List.flatMap_cons, List.length_append, opC_len l]; simp only [List.length_cons, List.length_nil]; omega
theorem opC_snoc (l : List Vm.Op) (o : Vm.Op) : (l ++ [o]).flatMap opC = l.flatMap opC ++ opC o := by simp [List.flatMap_append]
abbrev emitR (w : World) (Φ : Hp) (bc : Nat) (kv : Value) (xs : List Vm.Op) (o : Vm.Op) : Ending → World → Prop := OwnU w Φ (coK bc kv xs) (fun _ : Value => .int .i64 ((xs.length : Nat) : Int)) fun v => coK bc v (xs ++ [o])
theorem coK_snoc {bc : Nat} {kv : Value} {xs : List Vm.Op} {o : Vm.Op} : coK bc kv (xs ++ [o]) = [.blk bc 78 [kv], .row kv 56 3 (xs.length + 1) (xs.flatMap opC ++ opC o)] := by
  unfold coK
  rw [opC_snoc, List.length_append, List.length_singleton]
theorem emit_c (w : World) {Φ : Hp} {bc : Nat} {kv : Value} {xs : List Vm.Op} (k a b : Int) (hb : xs.length ≤ 1000000000) (h0 : StP ⟨w, Φ, fps (coK bc kv xs)⟩ Φ (coK bc kv xs) w) :
    Calls pg 27 #[pB bc, .int .i64 k, .int .i64 a, .int .i64 b] w (emitR w Φ bc kv xs ⟨k, a, b⟩) := by
  refine calls_of_AW (args := [pB bc, .int .i64 k, .int .i64 a, .int .i64 b]) Tryz.func27 rfl (lBT rfl) (St ⟨w, Φ, fps (coK bc kv xs)⟩ Φ (coK bc kv xs)) h0 ?_
  show AW _ _ [] _ _ _ [(0, pB bc), (1, .int .i64 k), (2, .int .i64 a), (3, .int .i64 b)] _
  repeat refine gs1 ?_
  refine RW.q (v := .agg (opC ⟨k, a, b⟩).toArray) rfl (q_build (vals := [(0, .int .i64 k), (1, .int .i64 a), (2, .int .i64 b)]) zero56 Tryz.underlying56 places56 rfl rfl) ?_
  refine RW.eff _ _ rfl (e_buildSlice (vals := [(0, .agg (opC ⟨k, a, b⟩).toArray)]) (cells := opC ⟨k, a, b⟩) Tryz.underlying36 inf56 rfl rfl rfl (by kernel_rfl) rfl) fun b6 => ?_
  refine RW.eff (fun xv : {vq : Value // IsSl vq (xs.length + 1)} => xv.1) (fun xv => St ⟨w, Φ, fps (coK bc kv xs)⟩ Φ [.row (.slice (some ⟨b6, 0, none⟩) 1 1) 56 3 1 (opC ⟨k, a, b⟩), .blk bc 78 [kv], .row xv.1 56 3 (xs.length + 1) (xs.flatMap opC ++ opC ⟨k, a, b⟩)]) rfl (e_append 2 rfl rfl rfl Tryz.underlying36 inf56 rfl rfl rfl (Cells.row0 0 rfl) rfl (by omega) (by omega) (fun _ => rfl)) ?_
  rintro ⟨v, hv⟩
  simp only
  repeat refine gs1 ?_
  refine RW.effn (J' := St ⟨w, Φ, fps (coK bc kv xs)⟩ Φ [.row (.slice (some ⟨b6, 0, none⟩) 1 1) 56 3 1 (opC ⟨k, a, b⟩), .blk bc 78 [v], .row v 56 3 (xs.length + 1) (xs.flatMap opC ++ opC ⟨k, a, b⟩)]) (e_storeSl (v := v) 1 rfl rfl rfl hv sz36 rfl rfl rfl) ?_
  repeat refine gs1 ?_
  exact fin_res (vs := [.int .i64 ((xs.length : Nat) : Int)]) rfl rfl ⟨.tmp (by show Value.int .i64 (((xs.length + 1 : Nat) : Int) - 1) = _; congr 1; omega), trivial⟩ rfl (fun w' hw => ⟨v, rfl, by show StP _ Φ (coK bc v (xs ++ [_])) w'; rw [coK_snoc]; exact StP.sel hw [1, 2] (by decide) rfl⟩)
theorem splice_A : ∀ (P : List Vm.Op) (o : Vm.Op) (Q : List Vm.Op) (n : Int), splice ((P ++ o :: Q).flatMap opC) (P.length * 3 + 1) [.int .i64 n] = (P ++ ⟨o.Kind, n, o.B⟩ :: Q).flatMap opC := fun P o Q n => by
  have h1 := opC_len P
  unfold splice
  rw [List.flatMap_append, List.flatMap_append, List.take_append, List.drop_append, h1]
  rw [List.take_of_length_le (by omega), List.drop_of_length_le (by simp only [List.length_singleton]; omega), show P.length * 3 + 1 - P.length * 3 = 1 by omega, List.length_singleton, show P.length * 3 + 1 + 1 - P.length * 3 = 2 by omega]
  simp [opC]
theorem splice_B : ∀ (P : List Vm.Op) (o : Vm.Op) (Q : List Vm.Op) (n : Int), splice ((P ++ o :: Q).flatMap opC) (P.length * 3 + 2) [.int .i64 n] = (P ++ ⟨o.Kind, o.A, n⟩ :: Q).flatMap opC := fun P o Q n => by
  have h1 := opC_len P
  unfold splice
  rw [List.flatMap_append, List.flatMap_append, List.take_append, List.drop_append, h1]
  rw [List.take_of_length_le (by omega), List.drop_of_length_le (by simp only [List.length_singleton]; omega), show P.length * 3 + 2 - P.length * 3 = 2 by omega, List.length_singleton, show P.length * 3 + 2 + 1 - P.length * 3 = 3 by omega]
  simp [opC]
theorem coK_sl {w : World} {B : Bs} {Φ : Hp} {bc : Nat} {kv : Value} {xs : List Vm.Op} (h : StP B Φ (coK bc kv xs) w) : IsSl kv xs.length := by
  have : RowS (hp w) kv 56 3 xs.length (xs.flatMap opC) := h.sat (.row kv 56 3 xs.length (xs.flatMap opC)) (by simp)
  exact this.isSl
theorem land_c (w : World) {Φ : Hp} {bc n : Nat} {kv : Value} {xs P Q : List Vm.Op} {o : Vm.Op} (hx : xs = P ++ o :: Q) (hn : P.length = n) (_ : xs.length ≤ 1000000000) (h0 : StP ⟨w, Φ, fps (coK bc kv xs)⟩ Φ (coK bc kv xs) w) :
    Calls pg 29 #[pB bc, .int .i64 (n : Int)] w (OwnU w Φ (coK bc kv xs) (fun _ : Unit => .tuple #[]) fun _ => coK bc kv (P ++ ⟨o.Kind, ((xs.length : Nat) : Int), o.B⟩ :: Q)) := by
  subst hn
  have hsl := coK_sl h0
  have hs2 := coK_sl h0
  have hl : (P ++ ⟨o.Kind, ((xs.length : Nat) : Int), o.B⟩ :: Q).length = xs.length := by rw [hx]; simp
  have hPl : P.length < xs.length := by rw [hx]; simp
  obtain ⟨kA, kc, rfl, _⟩ := hsl
  refine calls_of_AW (args := [pB bc, .int .i64 ((P.length : Nat) : Int)]) Tryz.func29 rfl (lBT rfl) (St ⟨w, Φ, fps (coK bc (.slice kA xs.length kc) xs)⟩ Φ (coK bc (.slice kA xs.length kc) xs)) h0 ?_
  show AW _ _ [] _ _ _ [(0, pB bc), (1, .int .i64 ((P.length : Nat) : Int))] _
  repeat refine gs1 ?_
  refine AW.drawZ (J0 := St ⟨w, Φ, fps (coK bc (.slice kA xs.length kc) xs)⟩ Φ (coK bc (.slice kA xs.length kc) xs)) [.q, .q, .q, .q, .q, .q, .q, .q, .q, .q, .q, .q, .e] [0, 1, 2, 3, 4, 5, 6, 7, 8, 9, 10, 11, 12] hmix (by kernel_rfl) ?_
  repeat refine gs1 ?_
  refine DW.effn (J' := St ⟨w, Φ, fps (coK bc (.slice kA xs.length kc) xs)⟩ Φ [.blk bc 78 [.slice kA xs.length kc], .row (.slice kA xs.length kc) 56 3 xs.length ((P ++ ⟨o.Kind, ((xs.length : Nat) : Int), o.B⟩ :: Q).flatMap opC)]) (fun h => absurd rfl h) (e_storeRow (n := 0) 1 rfl rfl rfl sz3 rfl rfl (by rw [opC_len]; omega) (by rw [hx]; exact splice_A P o Q _) rfl) ?_
  repeat refine gs1 ?_
  exact fin_none (J' := St ⟨w, Φ, fps (coK bc (.slice kA xs.length kc) xs)⟩ Φ [.blk bc 78 [.slice kA xs.length kc], .row (.slice kA xs.length kc) 56 3 xs.length ((P ++ ⟨o.Kind, ((xs.length : Nat) : Int), o.B⟩ :: Q).flatMap opC)]) rfl rfl (fun _ h => h) (fun w1 hw1 => ⟨(), rfl, by unfold coK; rw [hl]; exact hw1⟩)
theorem operation_c (w : World) (k : Int) : Calls pg 71 #[.int .i64 k] w fun e w' => e = .returned (.int .i64 (Vm.opOf k)) ∧ Bel w.heap.size w w' := by
  refine calls_of_AW (args := [.int .i64 k]) Tryz.func71 rfl (lBT rfl) (St ⟨w, hp w, []⟩ (hp w) []) (StP.init w (hp w) (Hp.le_refl _) []) ?_
  show AW _ _ [] _ _ _ [(0, .int .i64 k)] _
  repeat refine gs1 ?_
  refine AW.cond rfl (fun h => ?_) fun h2 => ?_
  · have h : k = 2 := odT h
    repeat refine gs1 ?_
    exact fin_res (vs := [.int .i64 (Vm.opOf k)]) rfl rfl ⟨.tmp (by subst h; rfl), trivial⟩ rfl (fun w' hw => ⟨rfl, hw.below rfl⟩)
  have h2 : k ≠ 2 := odF h2
  repeat refine gs1 ?_
  refine AW.cond rfl (fun h => ?_) fun h3 => ?_
  · have h : k = 3 := odT h
    repeat refine gs1 ?_
    exact fin_res (vs := [.int .i64 (Vm.opOf k)]) rfl rfl ⟨.tmp (by subst h; rfl), trivial⟩ rfl (fun w' hw => ⟨rfl, hw.below rfl⟩)
  have h3 : k ≠ 3 := odF h3
  repeat refine gs1 ?_
  refine AW.cond rfl (fun h => ?_) fun h4 => ?_
  · have h : k = 4 := odT h
    repeat refine gs1 ?_
    exact fin_res (vs := [.int .i64 (Vm.opOf k)]) rfl rfl ⟨.tmp (by subst h; rfl), trivial⟩ rfl (fun w' hw => ⟨rfl, hw.below rfl⟩)
  have h4 : k ≠ 4 := odF h4
  repeat refine gs1 ?_
  refine AW.cond rfl (fun h => ?_) fun h5 => ?_
  · have h : k = 5 := odT h
    repeat refine gs1 ?_
    exact fin_res (vs := [.int .i64 (Vm.opOf k)]) rfl rfl ⟨.tmp (by subst h; rfl), trivial⟩ rfl (fun w' hw => ⟨rfl, hw.below rfl⟩)
  have h5 : k ≠ 5 := odF h5
  repeat refine gs1 ?_
  refine AW.cond rfl (fun h => ?_) fun h6 => ?_
  · have h : k = 6 := odT h
    repeat refine gs1 ?_
    exact fin_res (vs := [.int .i64 (Vm.opOf k)]) rfl rfl ⟨.tmp (by subst h; rfl), trivial⟩ rfl (fun w' hw => ⟨rfl, hw.below rfl⟩)
  have h6 : k ≠ 6 := odF h6
  repeat refine gs1 ?_
  refine AW.cond rfl (fun h => ?_) fun h7 => ?_
  · have h : k = 7 := odT h
    repeat refine gs1 ?_
    exact fin_res (vs := [.int .i64 (Vm.opOf k)]) rfl rfl ⟨.tmp (by subst h; rfl), trivial⟩ rfl (fun w' hw => ⟨rfl, hw.below rfl⟩)
  have h7 : k ≠ 7 := odF h7
  repeat refine gs1 ?_
  refine AW.cond rfl (fun h => ?_) fun h8 => ?_
  · have h : k = 8 := odT h
    repeat refine gs1 ?_
    exact fin_res (vs := [.int .i64 (Vm.opOf k)]) rfl rfl ⟨.tmp (by subst h; rfl), trivial⟩ rfl (fun w' hw => ⟨rfl, hw.below rfl⟩)
  have h8 : k ≠ 8 := odF h8
  repeat refine gs1 ?_
  refine AW.cond rfl (fun h => ?_) fun h9 => ?_
  · have h : k = 9 := odT h
    repeat refine gs1 ?_
    exact fin_res (vs := [.int .i64 (Vm.opOf k)]) rfl rfl ⟨.tmp (by subst h; rfl), trivial⟩ rfl (fun w' hw => ⟨rfl, hw.below rfl⟩)
  have h9 : k ≠ 9 := odF h9
  repeat refine gs1 ?_
  exact fin_res (vs := [.int .i64 (Vm.opOf k)]) rfl rfl ⟨.tmp (by unfold Vm.opOf; rw [if_neg h2, if_neg h3, if_neg h4, if_neg h5, if_neg h6, if_neg h7, if_neg h8, if_neg h9]; rfl), trivial⟩ rfl (fun w' hw => ⟨rfl, hw.below rfl⟩)
end Go.Proofs.YtjmeeofdffdpnaaGreatDoor
namespace Mn
open Bt
abbrev mx : Int := 9223372036854775807
abbrev mn : Int := -9223372036854775808
def lim (n : Int) : Int := if n < mn then mn else if mx < n then mx else n
def clampI (n lo hi : Int) : Int := if n < lo then lo else if hi < n then hi else n
theorem lim_I64 (n : Int) : mn ≤ lim n ∧ lim n ≤ mx := by unfold lim mn mx; split <;> (try split) <;> omega
def atL (l : List Int) (i : Int) : Int := if i < 0 ∨ (l.length : Int) ≤ i then 0 else l.getD i.toNat 0
def bef (y : Int) : Int := 365 * (y - 2000) + (y - 2000 + 3) / 4 - (y - 2000 + 99) / 100 + (y - 2000 + 399) / 400
def leap (y : Int) : Bool := decide (y % 4 = 0) && (decide (y % 100 ≠ 0) || decide (y % 400 = 0))
def months : List Int := [31, 29, 31, 30, 31, 30, 31, 31, 30, 31, 30, 31]
def mlen (y m : Int) : Int := if m = 2 ∧ leap y = false then 28 else months.getD (m - 1).toNat 0
def yearF : Nat → Int → Int → Int
  | 0, _, y => y
  | f + 1, d, y => if bef (y + 1) ≤ d then yearF f d (y + 1) else y
def monF : Nat → Int → Int → Int → Int × Int
  | 0, _, d, m => (d, m)
  | f + 1, y, d, m => if mlen y m ≤ d then monF f y (d - mlen y m) (m + 1) else (d, m)
def ymd (h : Int) : Int × Int × Int :=
  let y := yearF 2000 (h / 24) (2000 + h / 24 / 366)
  let r := monF 12 y (h / 24 - bef y) 1
  (y, r.2, r.1 + 1)
def dateOf (h : Int) : (Int × Int × Int × Int) × Bool :=
  if h < 0 ∨ 16777216 < h then ((0, 0, 0, 0), false) else (((ymd h).1, (ymd h).2.1, (ymd h).2.2, h % 24), true)
theorem bef_ge {y : Int} (h : 2000 ≤ y) : 365 * (y - 2000) ≤ bef y ∧ bef y ≤ 366 * (y - 2000) := by unfold bef; omega
theorem bef_next (y : Int) (_ : 2000 ≤ y) : bef (y + 1) - bef y = if leap y = true then 366 else 365 := by
  unfold bef leap
  split
  · rename_i hl
    simp only [Bool.and_eq_true, Bool.or_eq_true, decide_eq_true_eq] at hl
    omega
  · rename_i hl
    simp only [Bool.and_eq_true, Bool.or_eq_true, decide_eq_true_eq] at hl
    omega
theorem yearF_ok : ∀ (f : Nat) (d y : Int), 2000 ≤ y → 0 ≤ d → bef y ≤ d → d < 365 * (y + f - 2000) → 2000 ≤ yearF f d y ∧ bef (yearF f d y) ≤ d ∧ d < bef (yearF f d y + 1)
  | 0, d, y, h1, h2, h3, h4 => by have := bef_ge h1; omega
  | f + 1, d, y, h1, h2, h3, h4 => by
    unfold yearF
    split
    · rename_i h
      exact yearF_ok f d (y + 1) (by omega) h2 h (by omega)
    · rename_i h
      exact ⟨h1, h3, by omega⟩
end Mn
namespace Go.Proofs.YtjmeeofdffdpnaaGreatDoor
open Go Go.K Go.RowKit
attribute [local irreducible] AW RW DW Post Qt
theorem Clamp_c (w : World) (Φ : Hp) (hΦ : Hp.le Φ (hp w)) {a b d : Int} :
  Calls pg 54 #[iV a, iV b, iV d] w fun e w' => e = .returned (iV (Mn.clampI a b d)) ∧ Bel w.heap.size w w' := by
 refine calls_of_AW (args := [iV a, iV b, iV d]) Tryz.func54 rfl (lBT rfl) (St ⟨w, Φ, []⟩ Φ []) (StP.init w Φ hΦ []) ?_
 show AW pg 16 [] _ _ _ [(0, iV a), (1, iV b), (2, iV d)] _
 refine g13 ?_
 refine AW.cond rfl (fun hc1 => ?_) fun hc1 => ?_
 ·
  simp [-List.getD_eq_getElem?_getD] at hc1
  refine g8 ?_
  exact fin_val (v' := iV b) rfl rfl rfl (congrArg (Value.int .i64) (by unfold Mn.clampI; rw [if_pos (by omega)]))
 ·
  simp [-List.getD_eq_getElem?_getD] at hc1
  refine g10 ?_
  refine AW.cond rfl (fun hc2 => ?_) fun hc2 => ?_
  ·
   simp [-List.getD_eq_getElem?_getD] at hc2
   refine g8 ?_
   exact fin_val (v' := iV d) rfl rfl rfl (congrArg (Value.int .i64) (by unfold Mn.clampI; rw [if_neg (by omega), if_pos (by omega)]))
  ·
   simp [-List.getD_eq_getElem?_getD] at hc2
   refine g9 ?_
   exact fin_val (v' := iV a) rfl rfl rfl (congrArg (Value.int .i64) (by unfold Mn.clampI; rw [if_neg (by omega), if_neg (by omega)]))
theorem Add_c (w : World) (Φ : Hp) (hΦ : Hp.le Φ (hp w)) {a b : Int} (ha : I64 a) (hb : I64 b) :
  Calls pg 149 #[iV a, iV b] w fun e w' => e = .returned (iV (Mn.lim (a + b))) ∧ Bel w.heap.size w w' := by
 refine calls_of_AW (args := [iV a, iV b]) Tryz.func149 rfl (lBT rfl) (St ⟨w, Φ, []⟩ Φ []) (StP.init w Φ hΦ []) ?_
 show AW pg 24 [] _ _ _ [(0, iV a), (1, iV b)] _
 have ha0 := ha
 have hb0 := hb
 unfold I64 at ha0 hb0
 refine g13 ?_
 refine RW.g (b := (decide ((0 : Int) < b))) (v := iV (9223372036854775807 - b)) rfl rfl rfl (fun h => q_sub rfl (gv_pos h) (by (try simp [-List.getD_eq_getElem?_getD] at h); omega) (by (try simp [-List.getD_eq_getElem?_getD] at h); unfold I64; omega)) ?_
 refine g1 ?_
 obtain ⟨qb1, hqb1⟩ : ∃ qz : Bool, ((decide ((0 : Int) < b)) && (decide (9223372036854775807 - b < a))) = qz := ⟨_, rfl⟩
 refine RW.q (v := .bool qb1) rfl (q_as (v := .bool ((decide ((0 : Int) < b)) && (decide (9223372036854775807 - b < a)))) (qpA rfl rfl rfl) (congrArg Value.bool hqb1)) ?_
 subst hqb1
 refine g2 ?_
 refine AW.cond rfl (fun hc1 => ?_) fun hc1 => ?_
 ·
  simp [-List.getD_eq_getElem?_getD] at hc1
  refine g7 ?_
  exact fin_val (v' := iV 9223372036854775807) rfl rfl rfl (congrArg (Value.int .i64) (by unfold Mn.lim Mn.mn Mn.mx; unfold I64 at ha hb; first | omega | (split <;> first | omega | (split <;> omega))))
 ·
  simp [-List.getD_eq_getElem?_getD] at hc1
  refine g10 ?_
  refine RW.g (b := (decide (b < 0))) (v := iV ((-9223372036854775808) - b)) rfl rfl rfl (fun h => q_sub rfl (gv_pos h) (by (try simp [-List.getD_eq_getElem?_getD] at h); omega) (by (try simp [-List.getD_eq_getElem?_getD] at h); unfold I64; omega)) ?_
  refine g1 ?_
  obtain ⟨qb2, hqb2⟩ : ∃ qz : Bool, ((decide (b < 0)) && (decide (a < (-9223372036854775808) - b))) = qz := ⟨_, rfl⟩
  refine RW.q (v := .bool qb2) rfl (q_as (v := .bool ((decide (b < 0)) && (decide (a < (-9223372036854775808) - b)))) (qpA rfl rfl rfl) (congrArg Value.bool hqb2)) ?_
  subst hqb2
  refine g2 ?_
  refine AW.cond rfl (fun hc2 => ?_) fun hc2 => ?_
  ·
   simp [-List.getD_eq_getElem?_getD] at hc2
   refine g7 ?_
   exact fin_val (v' := iV (-9223372036854775808)) rfl rfl rfl (congrArg (Value.int .i64) (by unfold Mn.lim Mn.mn Mn.mx; unfold I64 at ha hb; first | omega | (split <;> first | omega | (split <;> omega))))
  ·
   simp [-List.getD_eq_getElem?_getD] at hc2
   refine g11 ?_
   exact fin_val (v' := iV (a + b)) rfl rfl rfl (congrArg (Value.int .i64) (by unfold Mn.lim Mn.mn Mn.mx; unfold I64 at ha hb; first | omega | (split <;> first | omega | (split <;> omega))))
theorem Sub_c (w : World) (Φ : Hp) (hΦ : Hp.le Φ (hp w)) {a b : Int} (ha : I64 a) (hb : I64 b) :
  Calls pg 107 #[iV a, iV b] w fun e w' => e = .returned (iV (Mn.lim (a - b))) ∧ Bel w.heap.size w w' := by
 refine calls_of_AW (args := [iV a, iV b]) Tryz.func107 rfl (lBT rfl) (St ⟨w, Φ, []⟩ Φ []) (StP.init w Φ hΦ []) ?_
 show AW pg 24 [] _ _ _ [(0, iV a), (1, iV b)] _
 have ha0 := ha
 have hb0 := hb
 unfold I64 at ha0 hb0
 refine g13 ?_
 refine RW.g (b := (decide (b < 0))) (v := iV (9223372036854775807 + b)) rfl rfl rfl (fun h => q_add rfl (gv_pos h) (by (try simp [-List.getD_eq_getElem?_getD] at h); omega) (by (try simp [-List.getD_eq_getElem?_getD] at h); unfold I64; omega)) ?_
 refine g1 ?_
 obtain ⟨qb1, hqb1⟩ : ∃ qz : Bool, ((decide (b < 0)) && (decide (9223372036854775807 + b < a))) = qz := ⟨_, rfl⟩
 refine RW.q (v := .bool qb1) rfl (q_as (v := .bool ((decide (b < 0)) && (decide (9223372036854775807 + b < a)))) (qpA rfl rfl rfl) (congrArg Value.bool hqb1)) ?_
 subst hqb1
 refine g2 ?_
 refine AW.cond rfl (fun hc1 => ?_) fun hc1 => ?_
 ·
  simp [-List.getD_eq_getElem?_getD] at hc1
  refine g7 ?_
  exact fin_val (v' := iV 9223372036854775807) rfl rfl rfl (congrArg (Value.int .i64) (by unfold Mn.lim Mn.mn Mn.mx; unfold I64 at ha hb; first | omega | (split <;> first | omega | (split <;> omega))))
 ·
  simp [-List.getD_eq_getElem?_getD] at hc1
  refine g10 ?_
  refine RW.g (b := (decide ((0 : Int) < b))) (v := iV ((-9223372036854775808) + b)) rfl rfl rfl (fun h => q_add rfl (gv_pos h) (by (try simp [-List.getD_eq_getElem?_getD] at h); omega) (by (try simp [-List.getD_eq_getElem?_getD] at h); unfold I64; omega)) ?_
  refine g1 ?_
  obtain ⟨qb2, hqb2⟩ : ∃ qz : Bool, ((decide ((0 : Int) < b)) && (decide (a < (-9223372036854775808) + b))) = qz := ⟨_, rfl⟩
  refine RW.q (v := .bool qb2) rfl (q_as (v := .bool ((decide ((0 : Int) < b)) && (decide (a < (-9223372036854775808) + b)))) (qpA rfl rfl rfl) (congrArg Value.bool hqb2)) ?_
  subst hqb2
  refine g2 ?_
  refine AW.cond rfl (fun hc2 => ?_) fun hc2 => ?_
  ·
   simp [-List.getD_eq_getElem?_getD] at hc2
   refine g7 ?_
   exact fin_val (v' := iV (-9223372036854775808)) rfl rfl rfl (congrArg (Value.int .i64) (by unfold Mn.lim Mn.mn Mn.mx; unfold I64 at ha hb; first | omega | (split <;> first | omega | (split <;> omega))))
  ·
   simp [-List.getD_eq_getElem?_getD] at hc2
   refine g11 ?_
   exact fin_val (v' := iV (a - b)) rfl rfl rfl (congrArg (Value.int .i64) (by unfold Mn.lim Mn.mn Mn.mx; unfold I64 at ha hb; first | omega | (split <;> first | omega | (split <;> omega))))
theorem truth1_c (w : World) (Φ : Hp) (hΦ : Hp.le Φ (hp w)) {t : Bool} :
  Calls pg 151 #[.bool t] w fun e w' => e = .returned (iV (if t then 1 else 0)) ∧ Bel w.heap.size w w' := by
 refine calls_of_AW (args := [.bool t]) Tryz.func151 rfl (lBT rfl) (St ⟨w, Φ, []⟩ Φ []) (StP.init w Φ hΦ []) ?_
 show AW pg 4 [] _ _ _ [(0, .bool t)] _
 refine g11 ?_
 refine AW.cond rfl (fun hc1 => ?_) fun hc1 => ?_
 ·
  refine g7 ?_
  exact fin_val (v' := iV 1) rfl rfl rfl (congrArg (Value.int .i64) (by simp_all))
 ·
  refine g8 ?_
  exact fin_val (v' := iV 0) rfl rfl rfl (congrArg (Value.int .i64) (by simp_all))
theorem isType_c (w : World) (Φ : Hp) (hΦ : Hp.le Φ (hp w)) {a : Int} :
  Calls pg 47 #[iV a] w fun e w' => e = .returned (.bool (decide (a = 0) || decide (a = 1))) ∧ Bel w.heap.size w w' := by
 refine calls_of_AW (args := [iV a]) Tryz.func47 rfl (lBT rfl) (St ⟨w, Φ, []⟩ Φ []) (StP.init w Φ hΦ []) ?_
 show AW pg 9 [] _ _ _ [(0, iV a)] _
 refine g12 ?_
 obtain ⟨qb1, hqb1⟩ : ∃ qz : Bool, ((decide (a = 0)) || (decide (a = 1))) = qz := ⟨_, rfl⟩
 refine RW.q (v := .bool qb1) rfl (q_as (v := .bool ((decide (a = 0)) || (decide (a = 1)))) (qpO rfl rfl rfl) (congrArg Value.bool hqb1)) ?_
 refine g1 ?_
 subst hqb1
 refine g3 ?_
 exact fin_val (v' := .bool ((decide (a = 0)) || (decide (a = 1)))) rfl rfl rfl (rfl)
theorem leap_c (w : World) (Φ : Hp) (hΦ : Hp.le Φ (hp w)) {a : Nat} :
  Calls pg 129 #[iV (a : Int)] w fun e w' => e = .returned (.bool (Mn.leap (a : Int))) ∧ Bel w.heap.size w w' := by
 refine calls_of_AW (args := [iV (a : Int)]) Tryz.func129 rfl (lBT rfl) (St ⟨w, Φ, []⟩ Φ []) (StP.init w Φ hΦ []) ?_
 show AW pg 16 [] _ _ _ [(0, iV (a : Int))] _
 refine g8 ?_
 refine RW.q (v := iV ((a % 4 : Nat) : Int)) rfl (q_remN (a := a) (b := 4) rfl rfl (by omega)) ?_
 refine g3 ?_
 refine RW.g (b := (decide (((a % 4 : Nat) : Int) = 0))) (v := iV ((a % 100 : Nat) : Int)) rfl rfl rfl (fun h => q_remN (a := a) (b := 100) (gv_pos h) rfl (by (try simp [-List.getD_eq_getElem?_getD] at h); omega)) ?_
 refine g2 ?_
 refine RW.g2 (b1 := (decide (((a % 4 : Nat) : Int) = 0))) (b2 := (!decide (((a % 100 : Nat) : Int) = 0))) (v := iV (a : Int)) rfl rfl rfl (fun hg1 hg2 => q_move rfl) (RW.g2 (b1 := (decide (((a % 4 : Nat) : Int) = 0))) (b2 := (!decide (((a % 100 : Nat) : Int) = 0))) (v := iV ((a % 400 : Nat) : Int)) rfl rfl rfl (fun hg1 hg2 => q_remN (a := a) (b := 400) ((gv_pos hg1).trans (gv_pos hg2)) rfl (by (try simp [-List.getD_eq_getElem?_getD] at hg1); (try simp [-List.getD_eq_getElem?_getD] at hg2); omega)) ?_)
 refine RW.g2 (b1 := (decide (((a % 4 : Nat) : Int) = 0))) (b2 := (!decide (((a % 100 : Nat) : Int) = 0))) (v := .bool (decide (((a % 400 : Nat) : Int) = 0))) rfl rfl rfl (fun hg1 hg2 => q_eql ((gv_pos hg1).trans (gv_pos hg2)) rfl) ?_
 obtain ⟨qb1, hqb1⟩ : ∃ qz : Bool, ((!decide (((a % 100 : Nat) : Int) = 0)) || (decide (((a % 400 : Nat) : Int) = 0))) = qz := ⟨_, rfl⟩
 refine RW.g (b := (decide (((a % 4 : Nat) : Int) = 0))) (v := .bool qb1) rfl rfl rfl (fun h => q_as (v := .bool ((!decide (((a % 100 : Nat) : Int) = 0)) || (decide (((a % 400 : Nat) : Int) = 0)))) (q_pick (gv_pos h) (fun hp => pkOrT hp) (fun hp => (gv_pos h).trans ((gv_pos hp).trans (pkOrF hp)))) (congrArg Value.bool hqb1)) ?_
 obtain ⟨qb2, hqb2⟩ : ∃ qz : Bool, ((decide (((a % 4 : Nat) : Int) = 0)) && qb1) = qz := ⟨_, rfl⟩
 refine RW.q (v := .bool qb2) rfl (q_as (v := .bool ((decide (((a % 4 : Nat) : Int) = 0)) && qb1)) (qpA rfl rfl rfl) (congrArg Value.bool hqb2)) ?_
 refine g1 ?_
 subst hqb2 hqb1
 refine g3 ?_
 exact fin_val (v' := .bool ((decide (((a % 4 : Nat) : Int) = 0)) && ((!decide (((a % 100 : Nat) : Int) = 0)) || (decide (((a % 400 : Nat) : Int) = 0))))) rfl rfl rfl (congrArg Value.bool (by unfold Mn.leap; rw [Bool.eq_iff_iff]; simp only [Bool.and_eq_true, Bool.or_eq_true, decide_eq_true_eq, Bool.not_eq_true', decide_eq_false_iff_not]; omega))
end Go.Proofs.YtjmeeofdffdpnaaGreatDoor
