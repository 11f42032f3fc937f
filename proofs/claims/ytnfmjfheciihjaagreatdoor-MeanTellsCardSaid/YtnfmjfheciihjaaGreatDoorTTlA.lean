/- Lemmas. Conditions: those of each theorem. -/
import Derived.Test.YtnfmjfheciihjaaGreatDoorTEvN
import Derived.Test.YtnfmjfheciihjaaGreatDoorTSmA
set_option maxRecDepth 8000
set_option maxHeartbeats 16000000
namespace Go.Proofs.YtnfmjfheciihjaaGreatDoor
open Go Go.K Go.RowKit Go.K.Ev
open Ru (BasV NmS)
noncomputable def eStr : KL pg 9 (List UInt8) := KL.of (Maps.string_keyed Tryz.underlying9) (fun l => .string (bs l)) (fun l => l.length ≤ maxLen) (fun h => bs_inj (by simpa using h)) fun a ha => ⟨_, WideMaps.keyOf_string_mk Tryz.underlying9 (by rw [bs_size]; exact ha)⟩
noncomputable def mpP : Mp pg where
 ks := 9
 ki := 3
 LS := eStr
 LI := kInt
 hS := fun _ => rfl
 gS := fun _ h => h
 hI := fun _ => rfl
 gI := fun _ h => h
 ex := exV 166 157
 hex := exV_ok ⟨_, Tryz.func166, rfl, rfl, by kernel_rfl, by kernel_rfl⟩ ⟨_, Tryz.func157, rfl, rfl, by kernel_rfl, by kernel_rfl⟩
/-! ### the lexer -/
def tkS (l : List Bt.Token) : List S := l.flatMap fun t => [.c (.int .i64 t.Kind), .c (.string (bs t.Text)), .c (.int .i64 t.At)]
def scanO : Cl := fun k args H n => bif Nat.beq k 28 then match args with
 | [.one (.c (.string b))] => let r := Lx.scan b.data.toList
  bif Nat.ble b.data.toList.length maxLen && (Nat.blt 0 r.1.length && Nat.beq r.2.1.toNat 0) then (T.ins (.kn (tkS r.1)) 64 H n).map fun H => (.tu [.one (.sl n 0 0 r.1.length), .one (.c (.int .i64 r.2.1)), .one (.c (.int .i64 r.2.2))], H, n + 1) else none
 | _ => none else none
theorem tkS_dn {ρ : En} (l : List Bt.Token) : dnL ρ (tkS l) = some (l.flatMap fun t => [Value.int .i64 t.Kind, .string (bs t.Text), .int .i64 t.At]) := by
 have : tkS l = (l.flatMap fun t => [Value.int .i64 t.Kind, .string (bs t.Text), .int .i64 t.At]).map .c := by
  unfold tkS
  induction l with
  | nil => rfl
  | cons a l ih => simp only [List.flatMap_cons, List.map_append, ih]; rfl
 rw [this]; exact dnL_cs _
theorem flat3 (d : Bt.Token) : ∀ (l : List Bt.Token) (k : Nat) (x : Value), (l.flatMap fun t => [Value.int .i64 t.Kind, .string (bs t.Text), .int .i64 t.At])[k]? = some x → ∃ i j, k = i * 3 + j ∧ i < l.length ∧ [Value.int .i64 (l.getD i d).Kind, .string (bs (l.getD i d).Text), .int .i64 (l.getD i d).At][j]? = some x
 | [], k, x, h => by simp at h
 | a :: l, k, x, h => by
  rw [List.flatMap_cons] at h
  by_cases hk : k < 3
  ·
   rw [List.getElem?_append_left (by simpa using hk)] at h
   exact ⟨0, k, by omega, by simp, h⟩
  ·
   rw [List.getElem?_append_right (by simpa using Nat.le_of_not_lt hk)] at h
   obtain ⟨i, j, h1, h2, h3⟩ := flat3 d l (k - 3) x (by simpa using h)
   exact ⟨i + 1, j, by omega, by simpa using h2, by simpa using h3⟩
theorem scanO_ok {gl : Nat → Option Nat} : ClOK mpP gl scanO := by
 intro k args H n r hr ρ Φ C xs w hg hx hC hf hw
 unfold scanO at hr
 obtain ⟨hk, h1⟩ := bif_some hr
 clear hr
 have hk := nB hk
 subst hk
 split at h1
 rotate_left
 ·
  cases h1
 rename_i b
 obtain ⟨hb, h2⟩ := bif_some h1
 clear h1
 obtain ⟨H', hi, rfl⟩ := mS h2
 clear h2
 simp only [Bool.and_eq_true] at hb
 obtain ⟨hl, hpos, _⟩ := hb
 obtain rfl := sJ hx
 refine ⟨oK, ?_⟩
 have hbs : b = bs b.data.toList := rfl
 generalize b.data.toList = l at *
 subst hbs
 refine (Scan_c w Φ hw.phi (l := l) (Nat.le_of_ble_eq_true hl)).mono fun e w' hh => ?_
 obtain ⟨u, rfl, hbel, v, rfl, hrep⟩ := hh
 obtain ⟨A, cap, rfl, hA, hcap⟩ := hrep.sl
 have hpos' : 0 < (Lx.scan l).1.length := by simpa [Nat.blt_eq] using hpos
 obtain ⟨a, rfl⟩ := Option.isSome_iff_exists.1 (hA hpos')
 have hw' := hw.call hbel
 have hle := le_ext hbel hw.phi
 obtain ⟨L1, L2, e, e'⟩ := T.ins_L id hi
 have hC2 := hC.mono (En.le_put (a := (a, cap)) hf) hle
 have hk0 := hC2.ck
 rw [T.l, e] at hk0
 obtain ⟨C1, C2, rfl, h5, h6⟩ := ckL_app hk0
 refine ⟨_, rfl, ρ.put n (a, cap), C1 ++ C2, _, En.le_put hf, hle, fun v ev => ?_, ⟨by rw [T.l, e']; exact ckL_put (c := []) (o := id n) (x := .kn _) h5 rfl h6, fun o cs hm => ?_⟩, hf.put, hw'⟩
 ·
  obtain rfl := sJ ev
  have ha0 : a.add 0 = a := by simp [Addr.add]
  simp [dnV, dnEs, dnE, dn, put_self, hcap, ha0]
 ·
  rw [T.l, e'] at hm
  simp only [List.mem_append, List.mem_cons, Prod.mk.injEq, id] at hm
  rcases hm with h8 | ⟨rfl, h8⟩ | h8
  ·
   exact hC2.kn o cs (by rw [T.l, e]; exact List.mem_append_left _ h8)
  ·
   simp only [O.kn.injEq] at h8
   subst h8
   refine ⟨a, cap, _, put_self, tkS_dn _, fun k x hx w2 hw2 => ?_⟩
   obtain ⟨i, j, rfl, hi3, hj⟩ := flat3 default _ k x hx
   obtain ⟨cs, h9, h10⟩ := hrep.at_ i hi3
   obtain ⟨rfl, _⟩ := h9
   have h11 := h10 j x (by simpa [gDD, hi3] using hj)
   have h12 := (h11.mono hw2).cell
   have : Value.at (.slice (some a) (Lx.scan l).1.length cap) (i * Rep.sz Bt.Token + j) = a.add (i * 3 + j) := rfl
   rw [this] at h12
   exact h12
  ·
   exact hC2.kn o cs (by rw [T.l, e]; exact List.mem_append_right _ h8)
/-! ### programs in memory -/
mutual
def ckE (H : T) : Bt.Expr → List S → Bool
 | ⟨k, n, o, q, ks⟩, cs => match cs with
  | [a, b, c, d, s] => ckI k a && (ckI n b && (ckI o c && (ckI q d && ckSl H ks.length 56 (ckEl H ks) s)))
  | _ => false
def ckEl (H : T) : List Bt.Expr → List S → Bool
 | [], _ => true
 | x :: xs, cs => ckE H x (cs.take 5) && ckEl H xs (cs.drop 5)
end
section
variable {ρ : En} {Ψ : Hp} {H : T}
theorem five {a b c d s : S} {vs : List Value} (h : dnL ρ [a, b, c, d, s] = some vs) : ∃ a' b' c' d' s', dn ρ a = some a' ∧ dn ρ b = some b' ∧ dn ρ c = some c' ∧ dn ρ d = some d' ∧ dn ρ s = some s' ∧ vs = [a', b', c', d', s'] := by
 simp only [dnL, bI, mI, Option.some.injEq] at h
 obtain ⟨a', h1, _, ⟨b', h2, _, ⟨c', h3, _, ⟨d', h4, _, ⟨s', h5, _, rfl, rfl⟩, rfl⟩, rfl⟩, rfl⟩, rfl⟩ := h
 exact ⟨a', b', c', d', s', h1, h2, h3, h4, h5, rfl⟩
mutual
theorem ckE_ok (hF : Froz ρ Ψ H) : ∀ (x : Bt.Expr) (cs : List S) (vs : List Value), ckE H x cs = true → dnL ρ cs = some vs → rpE Ψ x vs
 | ⟨k, n, o, q, ks⟩, cs, vs, h, hd => by
  unfold ckE at h
  split at h
  rotate_left
  ·
   cases h
  rename_i a b c d s
  simp only [Bool.and_eq_true] at h
  obtain ⟨h1, h2, h3, h4, h5⟩ := h
  obtain ⟨a', b', c', d', s', g1, g2, g3, g4, g5, rfl⟩ := five hd
  obtain ⟨rfl, k1⟩ := ckI_ok h1 g1
  obtain ⟨rfl, k2⟩ := ckI_ok h2 g2
  obtain ⟨rfl, k3⟩ := ckI_ok h3 g3
  obtain ⟨rfl, k4⟩ := ckI_ok h4 g4
  obtain ⟨h6, h7, h8⟩ := ckSl_ok hF h5 g5
  unfold rpE
  rcases h8 with h8 | ⟨cs, us, h8, h9, h10⟩
  ·
   obtain rfl : ks = [] := List.length_eq_zero_iff.1 h8
   exact ⟨s', [], rfl, ⟨k1, k2, k3, k4⟩, h6, h7, by unfold rpX; rfl, fun i c hc => by simp at hc⟩
  ·
   obtain ⟨css, h11, h12⟩ := ckEl_ok hF ks cs us h8 h9
   exact ⟨s', css, rfl, ⟨k1, k2, k3, k4⟩, h6, h7, h11, fun i c hc j u hj => h10 _ _ (h12 i c hc j u hj)⟩
theorem ckEl_ok (hF : Froz ρ Ψ H) : ∀ (xs : List Bt.Expr) (cs : List S) (vs : List Value), ckEl H xs cs = true → dnL ρ cs = some vs → ∃ css, rpX Ψ xs css ∧ ∀ i c, css[i]? = some c → ∀ j u, c[j]? = some u → vs[i * 5 + j]? = some u
 | [], cs, vs, h, hd => ⟨[], by unfold rpX; rfl, fun i c hc => by simp at hc⟩
 | x :: xs, cs, vs, h, hd => by
  unfold ckEl at h
  simp only [Bool.and_eq_true] at h
  have h1 := ckE_ok hF x _ _ h.1 (dnL_take 5 hd)
  obtain ⟨css, h2, h3⟩ := ckEl_ok hF xs _ _ h.2 (dnL_drop 5 hd)
  refine ⟨vs.take 5 :: css, by unfold rpX; exact ⟨_, _, rfl, h1, h2⟩, fun i c hc j u hj => ?_⟩
  cases i with
  | zero =>
   obtain rfl : vs.take 5 = c := by simpa using hc
   rw [List.getElem?_take] at hj
   split at hj
   ·
    simpa using hj
   ·
    cases hj
  | succ i =>
   have := h3 i c (by simpa using hc) j u hj
   rw [List.getElem?_drop] at this
   rw [← this]
   congr 1; omega
end
theorem kids_ok (hF : Froz ρ Ψ H) {xs : List Bt.Expr} {s : S} {v : Value} (h : ckSl H xs.length 56 (ckEl H xs) s = true) (hd : dn ρ s = some v) : RepSl Ψ xs v := by
 obtain ⟨h6, h7, h8⟩ := ckSl_ok hF h hd
 refine ⟨h6, h7, fun i hi => ?_⟩
 rcases h8 with h8 | ⟨cs, us, h8, h9, h10⟩
 ·
  omega
 ·
  obtain ⟨css, h11, h12⟩ := ckEl_ok hF xs cs us h8 h9
  obtain ⟨c, h13, h14⟩ := (rpX_iff.1 h11).2 i hi
  exact ⟨c, h14, fun j u hj => h10 _ _ (h12 i c h13 j u hj)⟩
end
def ckB5 (H : T) (x : Bt.Expr) : List S → Bool
 | [a, b, c, d, s] => ckI x.Kind a && (ckI x.N b && (ckI x.Of c && (ckI x.Of2 d && ckSl H x.Kids.length 56 (ckEl H x.Kids) s)))
 | _ => false
theorem ckB5_ok {ρ : En} {Ψ : Hp} {H : T} (hF : Froz ρ Ψ H) {x : Bt.Expr} {cs : List S} {vs : List Value} (h : ckB5 H x cs = true) (hd : dnL ρ cs = some vs) : ∃ v, vs = exC x v ∧ wfE x ∧ RepSl Ψ x.Kids v := by
 unfold ckB5 at h
 split at h
 rotate_left
 ·
  cases h
 simp only [Bool.and_eq_true] at h
 obtain ⟨h1, h2, h3, h4, h5⟩ := h
 obtain ⟨a', b', c', d', s', g1, g2, g3, g4, g5, rfl⟩ := five hd
 obtain ⟨rfl, k1⟩ := ckI_ok h1 g1
 obtain ⟨rfl, k2⟩ := ckI_ok h2 g2
 obtain ⟨rfl, k3⟩ := ckI_ok h3 g3
 obtain ⟨rfl, k4⟩ := ckI_ok h4 g4
 exact ⟨s', rfl, ⟨k1, k2, k3, k4⟩, kids_ok hF h5 g5⟩
instance : Rfy Bt.RFunc where
 ck := fun H x cs => match cs with
  | a :: b :: c :: cs => ckB x.Name a && (ckS H x.Params b && (ckI x.Result c && ckB5 H x.Body cs))
  | _ => false
 ok := fun hF h hd => by
  split at h
  ·
   simp only [Bool.and_eq_true] at h
   simp only [dnL, bI, mI] at hd
   obtain ⟨a', h1, _, ⟨b', h2, _, ⟨c', h3, us, h4, rfl⟩, rfl⟩, rfl⟩ := hd
   obtain ⟨rfl, k1⟩ := ckB_ok h.1 h1
   have k2 := ckS_ok hF h.2.1 h2
   obtain ⟨rfl, k3⟩ := ckI_ok h.2.2.1 h3
   obtain ⟨v, rfl, k4, k5⟩ := ckB5_ok hF h.2.2.2 h4
   exact ⟨b', v, rfl, k1, k2, k3, k4, k5⟩
  ·
   cases h
instance : Rfy Bt.RClause where
 ck := fun H x cs => ckB5 H x.If (cs.take 5) && (match cs.drop 5 with
  | a :: cs => ckI x.Link a && ckB5 H x.To cs
  | _ => false)
 ok := fun {ρ Ψ H x cs vs} hF h hd => by
  obtain ⟨h1, h2⟩ := Bool.and_eq_true_iff.1 h
  obtain ⟨u, k1, k2, k3⟩ := ckB5_ok hF h1 (dnL_take 5 hd)
  have hd2 := dnL_drop 5 hd
  split at h2
  ·
   rename_i a cs' he
   rw [he] at hd2
   simp only [Bool.and_eq_true] at h2
   simp only [dnL, bI, mI] at hd2
   obtain ⟨a', h3, us, h4, h5⟩ := hd2
   obtain ⟨rfl, k4⟩ := ckI_ok h2.1 h3
   obtain ⟨v, rfl, k5, k6⟩ := ckB5_ok hF h2.2 h4
   refine ⟨u, v, ?_, k2, k3, k4, k5, k6⟩
   rw [← List.take_append_drop 5 vs, k1, ← h5]
  ·
   cases h2
def gP (g : Nat) : Option Nat := bif Nat.beq g 1 then some 2 else bif Nat.beq g 2 then some 3 else none
abbrev lvV : List Value := [Value.string (bs [111, 114]), .int .i64 12, .string (bs [111, 114]), .int .i64 12, .string (bs [97, 110, 100]), .int .i64 11, .string (bs [97, 110, 100]), .int .i64 11, .string (bs [43]), .int .i64 4, .string (bs [45]), .int .i64 5, .string (bs [42]), .int .i64 6, .string (bs [47]), .int .i64 7]
abbrev owV : List Value := [sV [112, 117, 98, 108, 105, 99]]
abbrev paV : List Value := plC [108, 97, 107, 101] ++ plC [98, 114, 111, 111, 107]
abbrev liV : List Value := lkC [103, 49] 4 ++ lkC [103, 50] 2
abbrev toV : List Value := tnC [111, 108, 100, 116, 111, 119, 110]
def knP : List (Nat × List S) := [(2, lvV.map .c), (3, mCells.map .c), (4, owV.map .c), (5, paV.map .c), (6, liV.map .c), (7, toV.map .c)]
def HP : T := (knT knP .nil).getD .nil
abbrev ρP (z : Nat × Nat × Nat × Nat) : En := enL [(2, ⟨1, 0, none⟩, 0), (3, ⟨2, 0, none⟩, 0), (4, ⟨z.1, 0, none⟩, 1), (5, ⟨z.2.1, 0, none⟩, 2), (6, ⟨z.2.2.1, 0, none⟩, 2), (7, ⟨z.2.2.2, 0, none⟩, 1)]
def argP (src : List UInt8) : List E := [.ag [.c (.string (bs [])), .sl 4 0 0 1, .c (.int .i64 0), .sl 5 0 0 2, .sl 6 0 0 2, .sl 7 0 0 1, .c (.slice none 0 0), .c (.slice none 0 0), .c (.slice none 0 0), .c (.slice none 0 0), .c (.int .i64 0)], .one (.c (.string (bs src)))]
noncomputable def orP : Cl := fun k args H m => bif Nat.beq k 28 then scanO k args H m else bif Nat.beq k 29 then dfO mpP gP noCl 3000 k args H m else none
theorem orP_ok : ClOK mpP gP orP := fun k args H m r h => by
 unfold orP at h
 cases h1 : Nat.beq k 28 with
 | true => rw [h1] at h; exact scanO_ok k args H m r h
 | false =>
  rw [h1] at h
  simp only [cond_false] at h
  obtain ⟨_, h⟩ := bif_some h
  exact dfO_ok hmix noCl_ok 3000 k args H m r h
def chkR (r : Bt.Rule) : V × T × Nat → Bool
 | (.tu [.one (.c (.int .i64 _)), _, _], _) => false
 | (.tu [.ag [s1, s2], .one (.c (.int .i64 a)), .one (.c (.int .i64 b))], H, _) => decide (a = 0) && (decide (b = 0) && (ckS H r.Funcs s1 && ckS H r.Clauses s2))
 | _ => false
noncomputable def goP (src : List UInt8) (r : Bt.Rule) : Bool := match callE mpP gP orP 3000 16 (argP src) HP 9 with
 | some x => chkR r x
 | none => false
theorem PlR.mono {Φ Ψ : Hp} {b : BasV} {z : Nat × Nat × Nat × Nat} (h : PlR Φ b z) (hl : Hp.le Φ Ψ) : PlR Ψ b z := ⟨h.e, sat_mono (c := .row _ _ _ _ _) hl h.o, sat_mono (c := .row _ _ _ _ _) hl h.p, sat_mono (c := .row _ _ _ _ _) hl h.l, sat_mono (c := .row _ _ _ _ _) hl h.t⟩
theorem HP_kn {z : Nat × Nat × Nat × Nat} {Φ : Hp} (hG : Knows Φ Glob) {b : BasV} (hr : PlR Φ b z) : CR mpP.mc (ρP z) Φ HP [] := by
 have hs : knT knP .nil = some HP := by
  have : (knT knP .nil).isSome = true := by decide +kernel
  obtain ⟨x, hx⟩ := Option.isSome_iff_exists.1 this
  unfold HP
  rw [hx]; rfl
 refine knT_ok hs (fun p hp => ?_) CR.nil
 have ha : ∀ b k, (⟨b, 0, none⟩ : Addr).add k = ⟨b, k, none⟩ := fun b k => add_base
 simp only [knP, List.mem_cons, List.not_mem_nil, or_false] at hp
 rcases hp with rfl | rfl | rfl | rfl | rfl | rfl
 ·
  exact ⟨_, _, _, rfl, dnL_cs _, fun k x hx w hw => by rw [ha]; exact (hG w hw).2.1 k x hx⟩
 ·
  exact ⟨_, _, _, rfl, dnL_cs _, fun k x hx w hw => by rw [ha]; exact (hG w hw).1 k x hx⟩
 ·
  exact ⟨_, _, _, rfl, dnL_cs _, fun k x hx w hw => by rw [ha]; exact ((row_pc hr.o hx).mono hw).cell⟩
 ·
  exact ⟨_, _, _, rfl, dnL_cs _, fun k x hx w hw => by rw [ha]; exact ((row_pc hr.p hx).mono hw).cell⟩
 ·
  exact ⟨_, _, _, rfl, dnL_cs _, fun k x hx w hw => by rw [ha]; exact ((row_pc hr.l hx).mono hw).cell⟩
 ·
  exact ⟨_, _, _, rfl, dnL_cs _, fun k x hx w hw => by rw [ha]; exact ((row_pc hr.t hx).mono hw).cell⟩
abbrev ParT (r : Bt.Rule) (v : Value) (Ψ : Hp) : Prop := ∃ y : Option Addr × Nat × Option Addr × Nat, v = .tuple #[.agg #[.slice y.1 r.Funcs.length y.2.1, .slice y.2.2.1 r.Clauses.length y.2.2.2], .int .i64 0, .int .i64 0] ∧ RepSl Ψ r.Funcs (.slice y.1 r.Funcs.length y.2.1) ∧ RepSl Ψ r.Clauses (.slice y.2.2.1 r.Clauses.length y.2.2.2)
theorem parE_c {w : World} {Φ : Hp} (hΦ : Hp.le Φ (hp w)) (hG : Knows Φ Glob) {b : BasV} {z : Nat × Nat × Nat × Nat} (hr : PlR Φ b z) {src : List UInt8} {r : Bt.Rule} (h : goP src r = true) :
  Calls pg 16 #[.agg b.cs.toArray, .string (bs src)] w (RetS Φ w (ParT r)) := by
 unfold goP at h
 split at h
 rotate_left
 ·
  cases h
 rename_i x hx
 obtain rfl := hr.e
 refine (ev_ret (callE_sound hmix orP_ok 3000) hx (xs := [.agg (plB z).cs.toArray, .string (bs src)]) hΦ (ρ := ρP z) (fun g o e => ?_) rfl (HP_kn hG hr) (fun o ho => ?_) (fun ρ' Ψ v hF hv => ?_) (fun v Ψ Ψ' hl hT => ?_)).2
 ·
  unfold gP at e
  cases g1 : Nat.beq g 1 with
  | true =>
   rw [g1] at e
   obtain rfl := nB g1
   obtain rfl := sJ e
   exact ⟨_, rfl⟩
  | false =>
   rw [g1] at e
   simp only [cond_false] at e
   obtain ⟨g2, e⟩ := bif_some e
   obtain rfl := nB g2
   obtain rfl := sJ e
   exact ⟨_, rfl⟩
 ·
  simp only [enL]
  rw [if_neg (by omega), if_neg (by omega), if_neg (by omega), if_neg (by omega), if_neg (by omega), if_neg (by omega)]
 ·
  unfold chkR at h
  split at h
  ·
   cases h
  ·
   rename_i s1 s2 a b H m
   simp only [Bool.and_eq_true] at h
   obtain ⟨ha, hb, hf, hc⟩ := h
   obtain rfl := odT ha
   obtain rfl := odT hb
   simp only [dnV, dnEs, dnE, dnL, dn, bI, mI, Option.map_some, Option.bind_some, Option.some.injEq] at hv
   obtain ⟨_, ⟨_, ⟨_, ⟨v1, g1, _, ⟨v2, g2, rfl⟩, rfl⟩, rfl⟩, rfl⟩, rfl⟩ := hv
   have k1 := ckS_ok hF hf g1
   have k2 := ckS_ok hF hc g2
   obtain ⟨A1, c1, rfl, _⟩ := k1.sl
   obtain ⟨A2, c2, rfl, _⟩ := k2.sl
   exact ⟨(A1, c1, A2, c2), rfl, k1, k2⟩
  ·
   cases h
 ·
  obtain ⟨y, rfl, k1, k2⟩ := hT
  exact ⟨y, rfl, k1.mono hl, k2.mono hl⟩
theorem goP_A : goP Ru.srcA Ru.ruleA = true := by decide +kernel
theorem goP_B : goP Ru.srcB Ru.ruleB = true := by decide +kernel
end Go.Proofs.YtnfmjfheciihjaaGreatDoor
namespace Go.Proofs.YtnfmjfheciihjaaGreatDoor
open Go Go.K Go.RowKit
open Ru (pB NmS BasV)
attribute [local irreducible] AW RW DW Post Qt
theorem ints1 {Φ : Hp} {b : Nat} {n : Int} (h : RowS Φ (nR b 1) 3 1 1 [iV n]) (hn : I64 n) : RepSl Φ [n] (nR b 1) := RowS.ints (xs := [n]) h (by decide) (List.forall_mem_singleton.2 hn)
theorem i64_lit {n : Nat} (h : n ≤ 1099511627776) : I64 (n : Int) := I64.nat h
abbrev fc1 (v : Value) : FcV := ⟨v, .slice none 0 0, .slice none 0 0, .slice none 0 0, .slice none 0 0⟩
theorem fc1_ok {Φ : Hp} {v : Value} {l : List Int} (h : RepSl Φ l v) : (fc1 v).ok Φ ⟨l, [], [], [], 0, []⟩ := ⟨h, repSl_nil, repSl_nil, repSl_nil, repSl_nil⟩
theorem pos0 : (∀ x ∈ ([4, 2] : List Int), I64 x) := fun x hx => by
 simp only [List.mem_cons, List.not_mem_nil, or_false] at hx
 rcases hx with rfl | rfl <;> (unfold I64; omega)
theorem run_x {w : World} {Φ : Hp} {args : Array Value} {o : Bt.Order} (h : Calls pg 11 args w (OrdR w Φ o)) :
  Calls pg 11 args w (RetS Φ w fun v Ψ => ∃ y : Option Addr × Nat, v = .agg #[.slice y.1 o.Cmds.length y.2, iV o.Used, iV o.Fault] ∧ RepSl Ψ o.Cmds (.slice y.1 o.Cmds.length y.2)) := by
 refine h.mono fun e w' hh => ?_
 obtain ⟨v, h1, h2, cv, rfl, h3⟩ := hh
 obtain ⟨cA, cc, rfl, _⟩ := h3.sl
 exact ⟨_, h1, h2, (cA, cc), rfl, h3⟩
theorem cmd2_wf {a b : Int} (ha : I64 a) (hb : I64 b) : ∀ x ∈ [(a, b), ((1 : Int), (0 : Int))], RepE.wf x := fun x hx => by
 simp only [List.mem_cons, List.not_mem_nil, or_false] at hx
 rcases hx with rfl | rfl
 ·
  exact ⟨ha, hb⟩
 ·
  exact ⟨by unfold I64; omega, by unfold I64; omega⟩
theorem e0l : ([4, 2] : List Int).length = Ru.env0.links.length := rfl
theorem e0m : ([4, 2] : List Int).length * 200 ≤ maxSl := by decide
theorem small_c (w : World) (Φ : Hp) (hΦ : Hp.le Φ (hp w)) (hG : Knows Φ Glob) : Calls pg 8 #[] w (fun e w' => e = .returned (.bool true) ∧ Bel w.heap.size w w') := by
 refine calls_of_AW (args := []) Tryz.func8 rfl (lBT rfl) (St ⟨w, Φ, []⟩ Φ []) (StP.init w Φ hΦ []) ?_
 show AW _ _ [] _ _ _ [] _
 repeat refine gs1 ?_
 refine RW.eff _ _ rfl (e_callS (args := #[]) oK rfl rfl (fun w1 hw1 => plain_c w1 Φ hw1.phi)) ?_
 rintro ⟨⟨v, Φ1⟩, ⟨b, z, hv, hb, hp1, hone, hz⟩, hl1⟩
 simp only at hv hb hp1 hz hl1 ⊢
 subst hv
 have hG1 := hG.mono hl1
 have hb1 := hb
 refine RW.alc rfl fun b1 => ?_
 refine RW.effn (e_stA (cs' := b.cs) 0 rfl rfl rfl hone rfl rfl) ?_
 repeat refine gs1 ?_
 refine RW.eff _ _ rfl (e_callS (args := #[.agg b.cs.toArray, .string (bs Ru.srcA)]) oK rfl rfl (fun w1 hw1 => parE_c hw1.phi hG1 hz goP_A)) ?_
 rintro ⟨⟨v, Φ2⟩, ⟨⟨fAA, fcA, cAA, ccA⟩, hv, hfA, hcA⟩, hl2⟩
 simp only at hv hfA hcA hl2 ⊢
 subst hv
 have hG2 := hG1.mono hl2
 have hb2 := hb1.mono hl2
 have hp2 := hp1.mono hl2
 repeat refine gs1 ?_
 refine RW.alc rfl fun b2 => ?_
 repeat refine gs1 ?_
 refine RW.eff _ _ rfl (e_buildSlice (vals := [(0, iV 11)]) (cells := [iV 11]) uT29 inf3 rfl rfl rfl (by kernel_rfl) rfl) fun d1 => (RW.frzB rfl fun Φ3 hl3 hr3 => ?_)
 have hr3 := ints1 hr3 (by unfold I64; omega)
 have hfA := hfA.mono hl3
 have hcA := hcA.mono hl3
 have hG3 := hG2.mono hl3
 have hb3 := hb2.mono hl3
 have hp3 := hp2.mono hl3
 refine RW.q (v := .agg (fcC (fc1 (nR d1 1)) 0).toArray) rfl (q_build (vals := [(0, nR d1 1)]) zero38 uT38 places38 rfl rfl) (RW.eff _ _ rfl (e_callS (args := #[.agg b.cs.toArray, .agg #[.slice fAA _ fcA, .slice cAA _ ccA], .agg (fcC (fc1 (nR d1 1)) 0).toArray]) oK rfl rfl (fun w1 hw1 => run_x (Mn.run_A1 ▸ mRun_c w1 Φ3 hw1.phi hG3 hb3 hp3 e0l e0m pos0 hfA hcA (f := Mn.fctA 11) (fc1_ok hr3) (i64_lit (n := 0) (by omega))))) ?_)
 rintro ⟨⟨v, Φ4⟩, ⟨⟨oA, kA⟩, hv, hoA⟩, hl4⟩
 simp only at hv hoA hl4 ⊢
 subst hv
 have hfA := hfA.mono hl4
 have hcA := hcA.mono hl4
 have hG4 := hG3.mono hl4
 have hb4 := hb3.mono hl4
 have hp4 := hp3.mono hl4
 repeat refine gs1 ?_
 refine RW.alc rfl fun b5 => ?_
 repeat refine gs1 ?_
 refine RW.eff _ _ rfl (e_buildSlice (vals := [(0, iV 10)]) (cells := [iV 10]) uT29 inf3 rfl rfl rfl (by kernel_rfl) rfl) fun d2 => (RW.frzB rfl fun Φ5 hl5 hr5 => ?_)
 have hr5 := ints1 hr5 (by unfold I64; omega)
 have hfA := hfA.mono hl5
 have hcA := hcA.mono hl5
 have hoA := hoA.mono hl5
 have hG5 := hG4.mono hl5
 have hb5 := hb4.mono hl5
 have hp5 := hp4.mono hl5
 refine RW.q (v := .agg (fcC (fc1 (nR d2 1)) 0).toArray) rfl (q_build (vals := [(0, nR d2 1)]) zero38 uT38 places38 rfl rfl) (RW.eff _ _ rfl (e_callS (args := #[.agg b.cs.toArray, .agg #[.slice fAA _ fcA, .slice cAA _ ccA], .agg (fcC (fc1 (nR d2 1)) 0).toArray]) oK rfl rfl (fun w1 hw1 => run_x (Mn.run_A2 ▸ mRun_c w1 Φ5 hw1.phi hG5 hb5 hp5 e0l e0m pos0 hfA hcA (f := Mn.fctA 10) (fc1_ok hr5) (i64_lit (n := 0) (by omega))))) ?_)
 rintro ⟨⟨v, Φ6⟩, ⟨⟨oB, kB⟩, hv, hoB⟩, hl6⟩
 simp only at hv hoB hl6 ⊢
 subst hv
 have hfA := hfA.mono hl6
 have hcA := hcA.mono hl6
 have hoA := hoA.mono hl6
 have hG6 := hG5.mono hl6
 have hb6 := hb5.mono hl6
 have hp6 := hp5.mono hl6
 repeat refine gs1 ?_
 refine RW.alc rfl fun b6 => ?_
 repeat refine gs1 ?_
 refine RW.eff _ _ rfl (e_callS (args := #[.agg b.cs.toArray, .string (bs Ru.srcB)]) oK rfl rfl (fun w1 hw1 => parE_c hw1.phi hG6 (hz.mono (Hp.le_trans hl2 (Hp.le_trans hl3 (Hp.le_trans hl4 (Hp.le_trans hl5 hl6))))) goP_B)) ?_
 rintro ⟨⟨v, Φ7⟩, ⟨⟨fAB, fcB, cAB, ccB⟩, hv, hfB, hcB⟩, hl7⟩
 simp only at hv hfB hcB hl7 ⊢
 subst hv
 have hG7 := hG6.mono hl7
 have hb7 := hb6.mono hl7
 have hp7 := hp6.mono hl7
 repeat refine gs1 ?_
 refine RW.alc rfl fun b7 => ?_
 repeat refine gs1 ?_
 have hoA := hoA.mono hl7
 have hoB := hoB.mono hl7
 refine RW.q (v := .agg (fcC (fc1 nS) 0).toArray) rfl (q_build (vals := []) zero38 uT38 places38 rfl rfl) (RW.eff _ _ rfl (e_callS (args := #[.agg b.cs.toArray, .agg #[.slice fAB _ fcB, .slice cAB _ ccB], .agg (fcC (fc1 nS) 0).toArray]) oK rfl rfl (fun w1 hw1 => run_x (Mn.run_B ▸ mRun_c w1 Φ7 hw1.phi hG7 hb7 hp7 e0l e0m pos0 hfB hcB (f := Mn.fct0) (fc1_ok (l := []) repSl_nil) (i64_lit (n := 0) (by omega))))) ?_)
 rintro ⟨⟨v, Φ8⟩, ⟨⟨oC, kC⟩, hv, hoC⟩, hl8⟩
 simp only at hv hoC hl8 ⊢
 subst hv
 have hoA := hoA.mono hl8
 have hoB := hoB.mono hl8
 have hG8 := hG7.mono hl8
 have hb8 := hb7.mono hl8
 have hp8 := hp7.mono hl8
 repeat refine gs1 ?_
 refine RW.alc rfl fun b10 => ?_
 repeat refine gs1 ?_
 refine RW.q (v := .agg #[iV 0, iV 4]) rfl (q_build (vals := [(0, iV 0), (1, iV 4)]) zero49 uT49 places49 rfl rfl) (RW.q (v := .agg #[iV 1, iV 0]) rfl (q_build (vals := [(0, iV 1)]) zero49 uT49 places49 rfl rfl) (RW.eff _ _ rfl (e_buildSlice (vals := [(0, .agg #[iV 0, iV 4]), (1, .agg #[iV 1, iV 0])]) (cells := [iV 0, iV 4, iV 1, iV 0]) uT42 inf49 rfl rfl rfl (by kernel_rfl) rfl) fun d3 => (RW.frzB rfl fun Φ9 hl9 hr9 => ?_)))
 have hr9 : RepSl Φ9 [((0 : Int), (4 : Int)), (1, 0)] (nR d3 2) := RowS.repE evenCmd hr9 rfl (by decide) (cmd2_wf (by unfold I64; omega) (by unfold I64; omega))
 have hoA := hoA.mono hl9
 have hoB := hoB.mono hl9
 refine RW.q (v := .agg (orC (nR d3 2) 3 0).toArray) rfl (q_build (vals := [(0, nR d3 2), (1, iV 3)]) zero45 uT45 places45 rfl rfl) (RW.q (v := .bool true) rfl (q_call (args := #[.agg (orC (.slice oA _ kA) 3 0).toArray, .agg (orC (nR d3 2) 3 0).toArray]) oK rfl rfl (fun w1 hw1 => oSame_c w1 (a := ⟨[(0, 4), (1, 0)], 3, 0⟩) (b := ⟨[(0, 4), (1, 0)], 3, 0⟩) (hoA.mono hw1.phi) (hr9.mono hw1.phi))) ?_)
 repeat refine gs1 ?_
 refine RW.q (v := .agg #[iV 0, iV 1]) rfl (q_build (vals := [(0, iV 0), (1, iV 1)]) zero49 uT49 places49 rfl rfl) (RW.q (v := .agg #[iV 1, iV 0]) rfl (q_build (vals := [(0, iV 1)]) zero49 uT49 places49 rfl rfl) (RW.eff _ _ rfl (e_buildSlice (vals := [(0, .agg #[iV 0, iV 1]), (1, .agg #[iV 1, iV 0])]) (cells := [iV 0, iV 1, iV 1, iV 0]) uT42 inf49 rfl rfl rfl (by kernel_rfl) rfl) fun d4 => (RW.frzB rfl fun Φ10 hl10 hr10 => ?_)))
 have hr10 : RepSl Φ10 [((0 : Int), (1 : Int)), (1, 0)] (nR d4 2) := RowS.repE evenCmd hr10 rfl (by decide) (cmd2_wf (by unfold I64; omega) (by unfold I64; omega))
 have hoA := hoA.mono hl10
 have hoB := hoB.mono hl10
 refine RW.q (v := .agg (orC (nR d4 2) 3 0).toArray) rfl (q_build (vals := [(0, nR d4 2), (1, iV 3)]) zero45 uT45 places45 rfl rfl) (RW.q (v := .bool true) rfl (q_call (args := #[.agg (orC (.slice oB _ kB) 3 0).toArray, .agg (orC (nR d4 2) 3 0).toArray]) oK rfl rfl (fun w1 hw1 => oSame_c w1 (a := ⟨[(0, 1), (1, 0)], 3, 0⟩) (b := ⟨[(0, 1), (1, 0)], 3, 0⟩) (hoB.mono hw1.phi) (hr10.mono hw1.phi))) ?_)
 repeat refine gs1 ?_
 refine RW.q (v := .bool true) rfl (q_pick (t := true) rfl (fun _ => rfl) (fun h => nomatch h)) (RW.q rfl (q_move rfl) (RW.g (b := true) rfl rfl rfl (fun _ => q_move rfl) (RW.q (v := .bool true) rfl (q_pick (t := true) rfl (fun _ => rfl) (fun h => nomatch h)) (RW.q rfl (q_move rfl) (RW.g (b := true) rfl rfl rfl (fun _ => q_move rfl) (RW.q (v := .bool true) rfl (q_pick (t := true) rfl (fun _ => rfl) (fun h => nomatch h)) (RW.q rfl (q_move rfl) (RW.g (b := true) rfl rfl rfl (fun _ => qa_fa0 rfl) (RW.g (b := true) rfl rfl rfl (fun _ => qa_ld rfl (Cell.blk 0 rfl rfl)) ?_)))))))))
 refine RW.g (b := true) (v := .bool true) rfl rfl rfl (fun _ => q_as (q_eql rfl rfl) rfl) (RW.q (v := .bool true) rfl (q_pick (t := true) rfl (fun _ => rfl) (fun h => nomatch h)) (RW.q rfl (q_move rfl) (RW.g (b := true) rfl rfl rfl (fun _ => qa_fa0 rfl) (RW.g (b := true) rfl rfl rfl (fun _ => qa_ld rfl (Cell.blk 0 rfl rfl)) (RW.g (b := true) (v := .bool true) rfl rfl rfl (fun _ => q_as (q_eql rfl rfl) rfl) (RW.q (v := .bool true) rfl (q_pick (t := true) rfl (fun _ => rfl) (fun h => nomatch h)) ?_))))))
 repeat refine gs1 ?_
 exact fin_res (vs := [.bool true]) rfl rfl ⟨.tmp rfl, trivial⟩ rfl (fun w' hw => ⟨rfl, hw.below rfl⟩)
end Go.Proofs.YtnfmjfheciihjaaGreatDoor
namespace Mn
open Bt
def light : Expr → Int → Int → Int
  | ⟨_, _, _, _, ks⟩, l, d => if l < 1 ∨ 60 < d then -1 else lightL ks (l - 1) d
where lightL : List Expr → Int → Int → Int
  | [], l, _ => l
  | k :: ks, l, d => if light k l (d + 1) < 0 then -1 else lightL ks (light k l (d + 1)) d
theorem light_eq (x : Expr) (l d : Int) : light x l d = if l < 1 ∨ 60 < d then -1 else light.lightL x.Kids (l - 1) d := by
  obtain ⟨k, n, a, b, ks⟩ := x
  rw [light]
mutual
theorem light_rng : ∀ (x : Expr) (l d : Int), -1 ≤ l → l ≤ 300 → -1 ≤ light x l d ∧ light x l d ≤ 300
  | ⟨k, n, a, b, ks⟩, l, d, h1, h2 => by
    rw [light]
    split
    · omega
    · exact lightL_rng ks (l - 1) d (by omega) (by omega)
theorem lightL_rng : ∀ (xs : List Expr) (l d : Int), -1 ≤ l → l ≤ 300 → -1 ≤ light.lightL xs l d ∧ light.lightL xs l d ≤ 300
  | [], l, d, h1, h2 => by rw [light.lightL]; omega
  | x :: xs, l, d, h1, h2 => by
    rw [light.lightL]
    split
    · omega
    · have h3 := light_rng x l (d + 1) h1 h2
      exact lightL_rng xs _ d h3.1 h3.2
end
def fewL (xs : List Expr) (l : Int) : Int := xs.foldl (fun l x => light x l 0) l
def few (r : Rule) : Bool := if 12 < r.Funcs.length ∨ 12 < r.Clauses.length then false else decide (0 ≤ fewL (r.Funcs.map (·.Body) ++ r.Clauses.flatMap fun c => [c.If, c.To]) 300)
theorem fewL_app (xs ys : List Expr) (l : Int) : fewL (xs ++ ys) l = fewL ys (fewL xs l) := by unfold fewL; rw [List.foldl_append]
theorem fewL_funs {r : Rule} {i : Nat} {l : Int} (h : i < r.Funcs.length) : fewL ((r.Funcs.drop i).map (·.Body)) l = fewL ((r.Funcs.drop (i + 1)).map (·.Body)) (light (r.Funcs.getD i default).Body l 0) := by
  rw [List.drop_eq_getElem_cons h, gDD, List.getElem?_eq_getElem h]; rfl
theorem fewL_cls {r : Rule} {i : Nat} {l : Int} (h : i < r.Clauses.length) : fewL ((r.Clauses.drop i).flatMap fun c => [c.If, c.To]) l = fewL ((r.Clauses.drop (i + 1)).flatMap fun c => [c.If, c.To]) (light (r.Clauses.getD i default).To (light (r.Clauses.getD i default).If l 0) 0) := by
  rw [List.drop_eq_getElem_cons h, gDD, List.getElem?_eq_getElem h]; rfl
end Mn
namespace Go.Proofs.YtnfmjfheciihjaaGreatDoor
open Go Go.K Go.RowKit
open Ru (pB)
attribute [local irreducible] AW RW DW Post Qt
theorem light_c : ∀ (g : Nat) (w : World) {x : Bt.Expr} {v : Value} {l d : Int}, SizeOf.sizeOf x ≤ g → RepSl (hp w) x.Kids v → -1 ≤ l → l ≤ 300 → 0 ≤ d → d ≤ 1000 + 61 →
    Calls pg 18 #[.agg (exC x v).toArray, .int .i64 l, .int .i64 d] w fun e w' => e = .returned (.int .i64 (Mn.light x l d)) ∧ Bel w.heap.size w w'
  | 0, w, ⟨k, n, a, b, ks⟩, v, l, d, hs, hv, hl0, hl1, hd0, hd1 => by simp at hs
  | g + 1, w, x, v, l, d, hs, hv, hl0, hl1, hd0, hd1 => by
    obtain ⟨vA, vc, rfl, _⟩ := hv.sl
    have hvs := hv.sl
    have hxm := hv.max
    have hxb : x.Kids.length * 56 ≤ maxSl := hxm
    simp only [maxSl] at hxb
    refine calls_of_AW (args := [.agg (exC x (.slice vA x.Kids.length vc)).toArray, .int .i64 l, .int .i64 d]) Tryz.func18 rfl (lBT rfl) (St ⟨w, hp w, []⟩ (hp w) []) (StP.init w (hp w) (Hp.le_refl _) []) ?_
    show AW _ _ [] _ _ _ [(0, .agg (exC x (.slice vA x.Kids.length vc)).toArray), (1, .int .i64 l), (2, .int .i64 d)] _
    repeat refine gs1 ?_
    refine RW.bxA (cs := exC x (.slice vA x.Kids.length vc)) rfl rfl fun b3 => ?_
    repeat refine gs1 ?_
    refine RW.q (v := .bool (decide (l < 1) || decide (60 < d))) rfl (qpO rfl rfl rfl) ?_
    repeat refine gs1 ?_
    refine AW.cond rfl (fun h => ?_) fun h => ?_
    · have h : l < 1 ∨ 60 < d := by simpa using h
      repeat refine gs1 ?_
      exact fin_res (vs := [.int .i64 (-1)]) rfl rfl ⟨.tmp rfl, trivial⟩ rfl (fun w' hw => ⟨by rw [Mn.light_eq, if_pos h]; rfl, hw.below rfl⟩)
    have h : ¬ (l < 1 ∨ 60 < d) := by simpa using h
    repeat refine gs1 ?_
    refine AW.loop (fun s J q => ∃ (i : Nat) (l2 : Int), s = [(1, .int .i64 l2), (2, .int .i64 d), (3, pB b3), (7, .int .i64 (i : Int))] ∧ J = St ⟨w, hp w, []⟩ (hp w) [.blk b3 69 (exC x (.slice vA x.Kids.length vc))] ∧ q = x.Kids.length - i ∧ i ≤ x.Kids.length ∧ 0 ≤ l2 ∧ l2 ≤ 300 ∧ Mn.light.lightL (x.Kids.drop i) l2 d = Mn.light x l d) (s0 := [(1, .int .i64 (l - 1)), (2, .int .i64 d), (3, pB b3), (7, .int .i64 ((0 : Nat) : Int))]) (J1 := _) (m0 := _) ⟨0, l - 1, rfl, rfl, rfl, Nat.zero_le _, by omega, by omega, by rw [Mn.light_eq, if_neg h]; rfl⟩ ⟨rfl, rfl, rfl, rfl, trivial⟩ (fun _ h => h) ?_
    rintro _ _ _ _ ⟨i, l2, rfl, rfl, rfl, hi, h20, h21, hL⟩
    repeat refine gs1 ?_
    refine AW.cond rfl (fun h => ?_) fun h => ?_
    · have h : i < x.Kids.length := by have := odT h; omega
      obtain ⟨Aa, ca, hpa, hra⟩ := kidV hv (i := i) h
      have hsz : SizeOf.sizeOf (x.Kids.getD i default) ≤ g := by
        have h1 : x.Kids.getD i default ∈ x.Kids := by rw [gDD, List.getElem?_eq_getElem h]; exact List.getElem_mem _
        have h2 := List.sizeOf_lt_of_mem h1
        have h3 : SizeOf.sizeOf x.Kids < SizeOf.sizeOf x := by obtain ⟨k, n, a, b, ks⟩ := x; simp; omega
        omega
      have hdr : x.Kids.drop i = x.Kids.getD i default :: x.Kids.drop (i + 1) := by rw [List.drop_eq_getElem_cons h, gDD, List.getElem?_eq_getElem h]; rfl
      rw [hdr, Mn.light.lightL] at hL
      have hr := Mn.light_rng (x.Kids.getD i default) l2 (d + 1) (by omega) h21
      repeat refine gs1 ?_
      refine RW.q rfl (q_call (args := #[.agg (exC (x.Kids.getD i default) (.slice Aa (x.Kids.getD i default).Kids.length ca)).toArray, .int .i64 l2, .int .i64 (d + 1)]) oK rfl rfl (fun w1 hw1 => light_c g w1 hsz (hra.mono hw1.phi) (by omega) h21 (by omega) (by omega))) ?_
      repeat refine gs1 ?_
      refine AW.cond rfl (fun hn => ?_) fun hn => ?_
      · have hn : Mn.light (x.Kids.getD i default) l2 (d + 1) < 0 := odT hn
        rw [if_pos hn] at hL
        repeat refine gs1 ?_
        exact fin_res (vs := [.int .i64 (-1)]) rfl rfl ⟨.tmp rfl, trivial⟩ rfl (fun w' hw => ⟨by rw [← hL]; rfl, hw.below rfl⟩)
      · have hn : ¬ Mn.light (x.Kids.getD i default) l2 (d + 1) < 0 := odF hn
        rw [if_neg hn] at hL
        repeat refine gs1 ?_
        exact Post.back (s' := _) (J' := _) (m' := _) (by omega) ⟨i + 1, _, rfl, rfl, rfl, by omega, by omega, hr.2, hL⟩ ⟨rfl, rfl, rfl, rfl, trivial⟩ (fun _ h => h)
    · have h : i = x.Kids.length := by have := odF h; omega
      subst h
      rw [List.drop_length, Mn.light.lightL] at hL
      repeat refine gs1 ?_
      exact fin_res (vs := [.int .i64 l2]) rfl rfl ⟨.tmp rfl, trivial⟩ rfl (fun w' hw => ⟨by rw [← hL]; rfl, hw.below rfl⟩)
theorem clP2 {Φ : Hp} {xs : List Bt.RClause} {v : Value} (h : RepSl Φ xs v) {i : Nat} (hi : i < xs.length) : ∃ A c A2 c2, PCells Φ (Value.at v (i * 11)) (exC (xs.getD i default).If (.slice A (xs.getD i default).If.Kids.length c)) ∧ PCells Φ (Value.at v (i * 11 + 6)) (exC (xs.getD i default).To (.slice A2 (xs.getD i default).To.Kids.length c2)) ∧ RepSl Φ (xs.getD i default).If.Kids (.slice A (xs.getD i default).If.Kids.length c) ∧ RepSl Φ (xs.getD i default).To.Kids (.slice A2 (xs.getD i default).To.Kids.length c2) := by
  obtain ⟨A, c, A2, c2, hpb, hki, hkt, _⟩ := clV h hi
  refine ⟨A, c, A2, c2, fun q u hq => hpb q u ((List.getElem?_append_left (List.getElem?_eq_some_iff.1 hq).1).trans hq), fun q u hq => ?_, hki, hkt⟩
  rw [at_add, Nat.add_assoc, ← at_add]
  refine hpb (6 + q) u ?_
  rw [Nat.add_comm 6 q]
  exact hq
theorem few_c (w : World) {r : Bt.Rule} {fv cv : Value} (hf : RepSl (hp w) r.Funcs fv) (hc : RepSl (hp w) r.Clauses cv) :
    Calls pg 9 #[.agg #[fv, cv]] w fun e w' => e = .returned (.bool (Mn.few r)) ∧ Bel w.heap.size w w' := by
  obtain ⟨fA, fc, rfl, _⟩ := hf.sl
  obtain ⟨cA, cc, rfl, _⟩ := hc.sl
  have hfs := hf.sl
  have hcs := hc.sl
  refine calls_of_AW (args := [.agg #[.slice fA r.Funcs.length fc, .slice cA r.Clauses.length cc]]) Tryz.func9 rfl (lBT rfl) (St ⟨w, hp w, []⟩ (hp w) []) (StP.init w (hp w) (Hp.le_refl _) []) ?_
  show AW _ _ [] _ _ _ [(0, .agg #[.slice fA r.Funcs.length fc, .slice cA r.Clauses.length cc])] _
  repeat refine gs1 ?_
  refine RW.bxA (cs := (rS2 fA fc cA cc r)) rfl rfl fun b1 => ?_
  repeat refine gs1 ?_
  refine RW.g (b := decide ((12 : Int) < (r.Funcs.length : Int))) (v := .int .i64 ((r.Clauses.length : Nat) : Int)) rfl rfl rfl (fun h => q_len_sl (gv_pos h) hcs Tryz.underlying33) ?_
  repeat refine gs1 ?_
  refine RW.q (v := .bool (decide ((12 : Int) < (r.Funcs.length : Int)) || decide ((12 : Int) < (r.Clauses.length : Int)))) rfl (qpO rfl rfl rfl) ?_
  repeat refine gs1 ?_
  refine AW.cond rfl (fun h => ?_) fun h => ?_
  · have h : 12 < r.Funcs.length ∨ 12 < r.Clauses.length := by simp only [Bool.or_eq_true, decide_eq_true_eq] at h; omega
    repeat refine gs1 ?_
    exact fin_res (vs := [.bool false]) rfl rfl ⟨.tmp rfl, trivial⟩ rfl (fun w' hw => ⟨by unfold Mn.few; rw [if_pos h]; rfl, hw.below rfl⟩)
  have h : ¬ (12 < r.Funcs.length ∨ 12 < r.Clauses.length) := by simp only [Bool.or_eq_false_iff, decide_eq_false_iff_not] at h; omega
  have hfew : Mn.few r = decide (0 ≤ Mn.fewL ((r.Clauses.drop 0).flatMap fun c => [c.If, c.To]) (Mn.fewL ((r.Funcs.drop 0).map (·.Body)) 300)) := by
    unfold Mn.few; rw [if_neg h, Mn.fewL_app]; rfl
  repeat refine gs1 ?_
  refine AW.loop (fun s J q => ∃ (i : Nat) (l : Int), s = [(1, pB b1), (3, .int .i64 l), (4, .int .i64 (i : Int))] ∧ J = St ⟨w, hp w, []⟩ (hp w) [.blk b1 35 (rS2 fA fc cA cc r)] ∧ q = r.Funcs.length - i ∧ i ≤ r.Funcs.length ∧ -1 ≤ l ∧ l ≤ 300 ∧ Mn.few r = decide (0 ≤ Mn.fewL ((r.Clauses.drop 0).flatMap fun c => [c.If, c.To]) (Mn.fewL ((r.Funcs.drop i).map (·.Body)) l))) (s0 := [(1, pB b1), (3, .int .i64 300), (4, .int .i64 ((0 : Nat) : Int))]) (J1 := _) (m0 := _) ⟨0, 300, rfl, rfl, rfl, Nat.zero_le _, by omega, by omega, hfew⟩ ⟨rfl, rfl, rfl, trivial⟩ (fun _ h => h) ?_
  rintro _ _ _ _ ⟨i, l, rfl, rfl, rfl, hi, hl0, hl1, hF⟩
  repeat refine gs1 ?_
  refine AW.cond rfl (fun h => ?_) fun h => ?_
  · have h : i < r.Funcs.length := by have := odT h; omega
    obtain ⟨Aa, ca, hpa, hra⟩ := funV hf h
    rw [Mn.fewL_funs h] at hF
    have hr := Mn.light_rng (r.Funcs.getD i default).Body l 0 hl0 hl1
    repeat refine gs1 ?_
    refine RW.q rfl (q_call (args := #[.agg (exC (r.Funcs.getD i default).Body (.slice Aa (r.Funcs.getD i default).Body.Kids.length ca)).toArray, .int .i64 l, .int .i64 0]) oK rfl rfl (fun w1 hw1 => light_c _ w1 (Nat.le_refl _) (hra.mono hw1.phi) hl0 hl1 (by omega) (by omega))) ?_
    repeat refine gs1 ?_
    exact Post.back (s' := _) (J' := _) (m' := _) (by omega) ⟨i + 1, _, rfl, rfl, rfl, by omega, hr.1, hr.2, hF⟩ ⟨rfl, rfl, rfl, trivial⟩ (fun _ h => h)
  have h : i = r.Funcs.length := by have := odF h; omega
  subst h
  rw [List.drop_length] at hF
  repeat refine gs1 ?_
  refine AW.loop (fun s J q => ∃ (i : Nat) (l : Int), s = [(1, pB b1), (3, .int .i64 l), (5, .int .i64 (i : Int))] ∧ J = St ⟨w, hp w, []⟩ (hp w) [.blk b1 35 (rS2 fA fc cA cc r)] ∧ q = r.Clauses.length - i ∧ i ≤ r.Clauses.length ∧ -1 ≤ l ∧ l ≤ 300 ∧ Mn.few r = decide (0 ≤ Mn.fewL ((r.Clauses.drop i).flatMap fun c => [c.If, c.To]) l)) (s0 := [(1, pB b1), (3, .int .i64 l), (5, .int .i64 ((0 : Nat) : Int))]) (J1 := _) (m0 := _) ⟨0, l, rfl, rfl, rfl, Nat.zero_le _, hl0, hl1, hF⟩ ⟨rfl, rfl, rfl, trivial⟩ (fun _ h => h) ?_
  rintro _ _ _ _ ⟨i, l, rfl, rfl, rfl, hi, hl0, hl1, hF⟩
  repeat refine gs1 ?_
  refine AW.cond rfl (fun h => ?_) fun h => ?_
  · have h : i < r.Clauses.length := by have := odT h; omega
    obtain ⟨Aa, ca, Ab, cb, hpi, hpt, hki, hkt⟩ := clP2 hc h
    rw [Mn.fewL_cls h] at hF
    have hr := Mn.light_rng (r.Clauses.getD i default).If l 0 hl0 hl1
    have hr2 := Mn.light_rng (r.Clauses.getD i default).To _ 0 hr.1 hr.2
    repeat refine gs1 ?_
    refine RW.q rfl (q_call (args := #[.agg (exC (r.Clauses.getD i default).If (.slice Aa (r.Clauses.getD i default).If.Kids.length ca)).toArray, .int .i64 l, .int .i64 0]) oK rfl rfl (fun w1 hw1 => light_c _ w1 (Nat.le_refl _) (hki.mono hw1.phi) hl0 hl1 (by omega) (by omega))) ?_
    repeat refine gs1 ?_
    refine RW.q rfl (q_call (args := #[.agg (exC (r.Clauses.getD i default).To (.slice Ab (r.Clauses.getD i default).To.Kids.length cb)).toArray, .int .i64 (Mn.light (r.Clauses.getD i default).If l 0), .int .i64 0]) oK rfl rfl (fun w1 hw1 => light_c _ w1 (Nat.le_refl _) (hkt.mono hw1.phi) hr.1 hr.2 (by omega) (by omega))) ?_
    repeat refine gs1 ?_
    exact Post.back (s' := _) (J' := _) (m' := _) (by omega) ⟨i + 1, _, rfl, rfl, rfl, by omega, hr2.1, hr2.2, hF⟩ ⟨rfl, rfl, rfl, trivial⟩ (fun _ h => h)
  have h : i = r.Clauses.length := by have := odF h; omega
  subst h
  rw [List.drop_length] at hF
  repeat refine gs1 ?_
  exact fin_res (vs := [.bool (decide (0 ≤ l))]) rfl rfl ⟨.tmp rfl, trivial⟩ rfl (fun w' hw => ⟨by rw [hF]; rfl, hw.below rfl⟩)
end Go.Proofs.YtnfmjfheciihjaaGreatDoor
namespace Go.Proofs.YtnfmjfheciihjaaGreatDoor
open Go Go.K Go.RowKit
open Ru (pB NmS BasV BigE)
attribute [local irreducible] AW RW DW Post Qt
theorem sameO_refl (a : Bt.Order) : Mn.sameO a a = true := by unfold Mn.sameO; simp
theorem runF_x {w : World} {Φ : Hp} {args : Array Value} {o : Bt.Order} (h : Calls pg 12 args w (OrdR w Φ o)) :
    Calls pg 12 args w (RetS Φ w fun v Ψ => ∃ y : Option Addr × Nat, v = .agg (orC (.slice y.1 o.Cmds.length y.2) o.Used o.Fault).toArray ∧ RepSl Ψ o.Cmds (.slice y.1 o.Cmds.length y.2)) := h.mono fun e w' hh => by
  obtain ⟨v, he, hb, cv, hv, hr⟩ := hh
  obtain ⟨A, c, rfl, _⟩ := hr.sl
  exact ⟨v, he, hb, (A, c), hv, hr⟩
theorem MeanTells_c (w : World) (Φ : Hp) (hΦ : Hp.le Φ (hp w)) (hG : Knows Φ Glob) {b : BasV} {e : Ru.Env} {ps : List Int} (hb : b.ok Φ e) (hB : BigE e) (hpos : PosS Φ b.lv ps) (hpl : ps.length = e.links.length) (hpm : ps.length * 200 ≤ maxSl) (hpi : ∀ x ∈ ps, I64 x) {r : Bt.Rule} {fv cv : Value} (hf : RepSl Φ r.Funcs fv) (hc : RepSl Φ r.Clauses cv) {f : Bt.Facts} {yf : FcV} (hy : yf.ok Φ f) (hh : I64 f.Hour) :
    Calls pg 3 #[.agg b.cs.toArray, .agg #[fv, cv], .agg (fcC yf f.Hour).toArray] w fun e w' => e = .returned (.bool true) ∧ Bel w.heap.size w w' := by
  obtain ⟨fA, fc, rfl, _⟩ := hf.sl
  obtain ⟨cA, cc, rfl, _⟩ := hc.sl
  refine calls_of_AW (args := [.agg b.cs.toArray, .agg #[.slice fA r.Funcs.length fc, .slice cA r.Clauses.length cc], .agg (fcC yf f.Hour).toArray]) Tryz.func3 rfl (lBT rfl) (St ⟨w, Φ, []⟩ Φ []) (StP.init w Φ hΦ []) ?_
  show AW _ _ [] _ _ _ [(0, .agg b.cs.toArray), (1, .agg #[.slice fA r.Funcs.length fc, .slice cA r.Clauses.length cc]), (2, .agg (fcC yf f.Hour).toArray)] _
  repeat refine gs1 ?_
  refine RW.bxA (cs := b.cs) rfl rfl fun b3 => ?_
  refine RW.bxA (cs := (rS2 fA fc cA cc r)) rfl rfl fun b4 => ?_
  refine RW.bxA (cs := fcC yf f.Hour) rfl rfl fun b5 => ?_
  repeat refine gs1 ?_
  refine RW.q (v := .bool true) rfl (q_call (args := #[]) oK rfl rfl (fun w1 hw1 => small_c w1 Φ hw1.phi hG)) ?_
  repeat refine gs1 ?_
  refine RW.q (v := .bool (Mn.few r)) rfl (q_call (args := #[.agg #[.slice fA r.Funcs.length fc, .slice cA r.Clauses.length cc]]) oK rfl rfl (fun w1 hw1 => few_c w1 (hf.mono hw1.phi) (hc.mono hw1.phi))) ?_
  repeat refine gs1 ?_
  refine AW.cond rfl (fun h => ?_) fun h => ?_
  · repeat refine gs1 ?_
    exact fin_res (vs := [.bool true]) rfl rfl ⟨.tmp rfl, trivial⟩ rfl (fun w' hw => ⟨rfl, hw.below rfl⟩)
  repeat refine gs1 ?_
  generalize hR : Mn.run e ps r f = R
  obtain ⟨RC, RU, RF⟩ := R
  refine AW.drawZ (J0 := St ⟨w, Φ, []⟩ Φ [.blk b5 38 (fcC yf f.Hour), .blk b4 35 (rS2 fA fc cA cc r), .blk b3 31 b.cs]) [.q, .q, .q, .q, .q, .q, .e, .e, .e, .q] [0, 1, 2, 4, 5, 6, 3, 7, 8, 9] hmix (by kernel_rfl) ?_
  refine DW.q (v := .agg b.cs.toArray) (fun _ h => h) rfl (qa_ldA (cs := b.cs) rfl (Cells.blk 2 rfl) rfl) ?_
  refine DW.q (v := .agg #[.slice fA r.Funcs.length fc, .slice cA r.Clauses.length cc]) (fun _ h => h) rfl (qa_ldA (cs := (rS2 fA fc cA cc r)) rfl (Cells.blk 1 rfl) rfl) ?_
  refine DW.q (v := .agg (fcC yf f.Hour).toArray) (fun _ h => h) rfl (qa_ldA (cs := fcC yf f.Hour) rfl (Cells.blk 0 rfl) rfl) ?_
  refine DW.q (v := .agg b.cs.toArray) (fun _ h => h) rfl (qa_ldA (cs := b.cs) rfl (Cells.blk 2 rfl) rfl) ?_
  refine DW.q (v := .agg #[.slice fA r.Funcs.length fc, .slice cA r.Clauses.length cc]) (fun _ h => h) rfl (qa_ldA (cs := (rS2 fA fc cA cc r)) rfl (Cells.blk 1 rfl) rfl) ?_
  refine DW.q (v := .agg (fcC yf f.Hour).toArray) (fun _ h => h) rfl (qa_ldA (cs := fcC yf f.Hour) rfl (Cells.blk 0 rfl) rfl) ?_
  refine DW.eff _ _ (fun _ x w1 h => StP.less h x.2.2) rfl (e_callS (args := #[.agg b.cs.toArray, .agg #[.slice fA r.Funcs.length fc, .slice cA r.Clauses.length cc], .agg (fcC yf f.Hour).toArray]) oK rfl rfl (fun w1 hw1 => run_x (hR ▸ mRun_c w1 Φ hw1.phi hG hb hpos hpl hpm hpi hf hc hy hh))) ?_
  rintro ⟨⟨v, Ψ⟩, ⟨y1, hv, ho⟩, hle⟩
  simp only at hv ho hle ⊢
  subst hv
  refine DW.eff _ _ (fun _ x w1 h => StP.less h (hle.trans x.2.2)) rfl (e_callS (args := #[.agg b.cs.toArray, .agg #[.slice fA r.Funcs.length fc, .slice cA r.Clauses.length cc], .agg (fcC yf f.Hour).toArray]) oK rfl rfl (fun w1 hw1 => runF_x (hR ▸ fRun_c w1 Ψ hw1.phi (hb.mono hle) hB (hpos.mono hle) hpl hpm hpi (hf.mono hle) (hc.mono hle) (hy.mono hle) hh))) ?_
  rintro ⟨⟨v, Ψ2⟩, ⟨y2, hv, hs2⟩, hle3⟩
  simp only at hv hs2 hle3 ⊢
  subst hv
  have ho2 := ho.mono hle3
  refine DW.eff (X := Unit) (fun _ => .bool true) (fun _ => St ⟨w, Φ, []⟩ Ψ2 [.blk b5 38 (fcC yf f.Hour), .blk b4 35 (rS2 fA fc cA cc r), .blk b3 31 b.cs]) (fun _ _ w1 h => StP.less h (hle.trans hle3)) rfl (e_quiet (q_as (q_call (args := #[.agg (orC (.slice y1.1 RC.length y1.2) RU RF).toArray, .agg (orC (.slice y2.1 RC.length y2.2) RU RF).toArray]) oK rfl rfl (fun w1 hw1 => oSame_c (a := ⟨RC, RU, RF⟩) (b := ⟨RC, RU, RF⟩) w1 (ho2.mono hw1.phi) (hs2.mono hw1.phi))) (congrArg Value.bool (sameO_refl _)))) fun _ => ?_
  refine DW.q (v := .bool true) (fun w1 h => StP.less h (hle.trans hle3)) rfl (q_assign rfl) ?_
  repeat refine gs1 ?_
  refine RW.q (v := .bool true) rfl (q_pick rfl (fun _ => rfl) (fun h => nomatch h)) ?_
  repeat refine gs1 ?_
  exact fin_res (vs := [.bool true]) rfl rfl ⟨.tmp rfl, trivial⟩ rfl (fun w' hw => ⟨rfl, (StP.less hw (Hp.le_refl _)).below rfl⟩)
end Go.Proofs.YtnfmjfheciihjaaGreatDoor
