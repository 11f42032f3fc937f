/- Lemmas. Conditions: those of each theorem. -/
import Derived.Test.YtpeojogjeopfaaaKEvC
namespace Go.K.Ev
open Go Go.K Go.RowKit
def Fr (ρ : En) (n : Nat) : Prop := ∀ o, n ≤ o → ρ o = none
def En.put (ρ : En) (n : Nat) (a : Addr × Nat) : En := fun o => if o = n then some a else ρ o
theorem En.le_put {ρ : En} {n : Nat} {a : Addr × Nat} (h : Fr ρ n) : En.le ρ (ρ.put n a) := fun o x e => by
 unfold En.put
 by_cases ho : o = n
 ·
  subst ho; rw [h o (Nat.le_refl _)] at e; cases e
 ·
  rw [if_neg ho]; exact e
theorem Fr.put {ρ : En} {n : Nat} {a : Addr × Nat} (h : Fr ρ n) : Fr (ρ.put n a) (n + 1) := fun o ho => by
 unfold En.put
 rw [if_neg (by omega)]; exact h o (by omega)
theorem put_self {ρ : En} {n : Nat} {a : Addr × Nat} : ρ.put n a n = some a := by simp [En.put]
def Aft {P : Program} (M : Mp P) (B : Bs) (ρ : En) (Φ : Hp) (r : Option V × T × Nat) (u : Value) (w : World) : Prop :=
 ∃ ρ' C' Φ', En.le ρ ρ' ∧ Hp.le Φ Φ' ∧ (∀ v, r.1 = some v → dnV ρ' v = some u) ∧ CR M.mc ρ' Φ' r.2.1 C' ∧ Fr ρ' r.2.2 ∧ StP B Φ' C' w
section
variable {mc : Mc} {ρ : En} {Φ : Hp} {H H' : T} {C : List Chunk}
theorem CR.ins {ob : O} {n fu : Nat} {a : Addr × Nat} {c : List Chunk} (h : CR mc ρ Φ H C) (hf : Fr ρ n) (hi : T.ins ob fu H n = some H') (hk : ∀ cs, ob ≠ .kn cs) (hc : ckO mc (ρ.put n a) n ob = some c) : ∃ C', CR mc (ρ.put n a) Φ H' C' ∧ C'.Perm (c ++ C) := by
 obtain ⟨L1, L2, e, e'⟩ := T.ins_L id hi
 have h2 := h.mono (En.le_put (a := a) hf) (Hp.le_refl Φ)
 have hk2 := h2.ck
 rw [T.l, e] at hk2
 obtain ⟨C1, C2, rfl, h3, h4⟩ := ckL_app hk2
 refine ⟨C1 ++ (c ++ C2), ⟨by rw [T.l, e']; exact ckL_put h3 hc h4, fun o cs hm => ?_⟩, ?_⟩
 ·
  rw [T.l, e'] at hm
  refine h2.kn o cs ?_
  rw [T.l, e]
  simp only [List.mem_append, List.mem_cons, Prod.mk.injEq] at hm ⊢
  rcases hm with h | ⟨_, h⟩ | h
  ·
   exact .inl h
  ·
   exact absurd h.symm (hk cs)
  ·
   exact .inr h
 ·
  exact List.perm_append_comm_assoc C1 c C2
theorem CR.del {n : Nat} (h : CR mc ρ Φ H C) (hi : H.del n = some H') : ∃ ob C1 c C2, H.get n = some ob ∧ ckO mc ρ n ob = some c ∧ C = C1 ++ (c ++ C2) ∧ CR mc ρ Φ H' (C1 ++ C2) := by
 obtain ⟨ob, L1, L2, e0, e, e'⟩ := T.del_L id hi
 have hk := h.ck
 rw [T.l, e] at hk
 obtain ⟨C1, c, C2, rfl, h3, h4, h5⟩ := ckL_cut hk
 refine ⟨ob, C1, c, C2, e0, h4, rfl, by rw [T.l, e']; exact ckL_join h3 h5, fun o cs hm => h.kn o cs ?_⟩
 rw [T.l, e'] at hm
 rw [T.l, e]
 simp only [List.mem_append, List.mem_cons] at hm ⊢
 exact hm.imp id .inr
theorem CR.upd {ob : O} {n : Nat} (h : CR mc ρ Φ H C) (hi : H.upd ob n = some H') (hk : ∀ cs, ob ≠ .kn cs) : ∃ x C1 c C2, H.get n = some x ∧ ckO mc ρ n x = some c ∧ C = C1 ++ (c ++ C2) ∧ ∀ c', ckO mc ρ n ob = some c' → CR mc ρ Φ H' (C1 ++ (c' ++ C2)) := by
 obtain ⟨x, L1, L2, e0, e, e'⟩ := T.upd_L id hi
 have hck := h.ck
 rw [T.l, e] at hck
 obtain ⟨C1, c, C2, rfl, h3, h4, h5⟩ := ckL_cut hck
 refine ⟨x, C1, c, C2, e0, h4, rfl, fun c' hc' => ⟨by rw [T.l, e']; exact ckL_put h3 hc' h5, fun o cs hm => h.kn o cs ?_⟩⟩
 rw [T.l, e'] at hm
 rw [T.l, e]
 simp only [List.mem_append, List.mem_cons, Prod.mk.injEq] at hm ⊢
 rcases hm with h | ⟨_, h⟩ | h
 ·
  exact .inl h
 ·
  exact absurd h.symm (hk cs)
 ·
  exact .inr (.inr h)
end
/-! ### the operations -/
def newO (ob : O) (H : T) (n : Nat) : Option (Option V × T × Nat) := (T.ins ob 64 H n).map fun H => (some (.e (.one (.p n 0))), H, n + 1)
def boxE (t : TypeId) (e : E) (H : T) (n : Nat) : Option (Option V × T × Nat) := if e.cells.all S.flat = true then newO (.blk t e.cells) H n else none
def storeE (P : Program) (t : TypeId) (a : V) (e : E) (H : T) (n : Nat) : Option (Option V × T × Nat) := a.ptr?.bind fun p => (P.info? t).bind fun i => if e.cells.all S.flat = true ∧ e.cells.length = i.size then
  (match H.get p.1 with
  | some (.blk T cs) => (putCs cs p.2 e.cells).bind fun cs => H.upd (.blk T cs) p.1
  | some (.row T sz m cs) => if 0 < i.size then (putCs cs p.2 e.cells).bind fun cs => H.upd (.row T sz m cs) p.1 else none
  | _ => none).map fun H => (none, H, n) else none
def seE (P : Program) (t : TypeId) : Option (TypeId × Value × Nat × Nat) := match P.underlying t with
 | some (.slice e) => (P.info? e).bind fun i => i.zero.bind fun z => if z.cells.size = i.size then some (e, z, i.size, i.bytes) else none
 | _ => none
def repC (v : Value) : Nat → List S
 | 0 => []
 | n + 1 => .c v :: repC v n
def makeE (P : Program) (t : TypeId) (l c : V) (H : T) (n : Nat) : Option (Option V × T × Nat) := (seE P t).bind fun a => (natE l).bind fun l => (natE c).bind fun c =>
 if l ≤ c ∧ a.2.2.2 * c ≤ 281474976710656 ∧ c ≤ 1000000000 then
  (if l = 0 then some [] else match a.2.1.cells.toList with | [z] => some (repC z l) | _ => none).bind fun cs => (T.ins (.row a.1 a.2.2.1 l cs) 64 H n).map fun H => (some (.e (.one (.sl n 0 0 l))), H, n + 1)
 else none
def cyc (z : List Value) (n : Nat) : List Value := (List.range n).map fun i => z[i % z.length]!
def bslE (P : Program) (t : TypeId) (len : Nat) (parts : List (Nat × E)) (H : T) (n : Nat) : Option (Option V × T × Nat) := (seE P t).bind fun a =>
 if Nat.ble 1 (len * a.2.2.1) = true ∧ Nat.ble (len * a.2.2.1) 16777216 = true then
  (fillE (fun i => some (i * a.2.2.1, a.2.2.1)) ((cyc a.2.1.cells.toList (len * a.2.2.1)).map .c) parts).bind fun cs => (T.ins (.row a.1 a.2.2.1 len cs) 64 H n).map fun H => (some (.e (.one (.sl n 0 0 len))), H, n + 1)
 else none
def appE (P : Program) (t : TypeId) (x y : V) (H : T) (n : Nat) : Option (Option V × T × Nat) := (seE P t).bind fun a => match y with
 | .e (.one (.sl o2 k2 _ m)) => (cellsAt H o2).bind fun c2 =>
   let news := (c2.drop k2).take (m * a.2.2.1)
   if news.length = m * a.2.2.1 ∧ 0 < m ∧ 0 < a.2.2.1 ∧ news.all S.flat = true then match x with
    | .e (.one (.sl o 0 0 l)) => match H.get o with
     | some (.row Te sz l' cs) => if Te = a.1 ∧ sz = a.2.2.1 ∧ l' = l ∧ (l + m) * a.2.2.2 ≤ 140737488355328 ∧ l + m ≤ 1000000000 then
       (H.del o).bind fun H => (T.ins (.row Te sz (l + m) (cs ++ news)) 64 H n).map fun H => (some (.e (.one (.sl n 0 0 (l + m)))), H, n + 1) else none
     | _ => none
    | .e (.one (.c (.slice none 0 0))) => if m * a.2.2.2 ≤ 140737488355328 ∧ m ≤ 1000000000 then (T.ins (.row a.1 a.2.2.1 m news) 64 H n).map fun H => (some (.e (.one (.sl n 0 0 m))), H, n + 1) else none
    | _ => none
   else none
 | _ => none
def cutE (x : V) (H : T) : Option T := match x with
 | .e (.one (.sl o 0 0 l)) => match H.get o with
  | some (.row Te sz l' cs) => if l < l' then H.upd (.row Te sz l (cs.take (l * sz))) o else none
  | _ => none
 | _ => none
def appC (P : Program) (t : TypeId) (x y : V) (H : T) (n : Nat) : Option (Option V × T × Nat) := match cutE x H with
 | some H' => appE P t x y H' n
 | none => appE P t x y H n
def mkMapE {P : Program} (M : Mp P) (t : TypeId) (H : T) (n : Nat) : Option (Option V × T × Nat) := (mpT P t).bind fun a =>
 (if a.1 = M.ks then some (.ms []) else if a.1 = M.ki then some (.mi []) else none).bind fun ob => (T.ins ob 64 H n).map fun H => (some (.e (.one (.mp n))), H, n + 1)
def putE {P : Program} (M : Mp P) (t : TypeId) (m k v : V) (H : T) (n : Nat) : Option (Option V × T × Nat) := (mpT P t).bind fun a => v.one?.bind fun v => match m with
 | .e (.one (.mp o)) => match H.get o with
  | some (.ms es) => k.str?.bind fun k => if a.1 = M.ks ∧ k.length ≤ maxLen then (H.upd (.ms ((k, v) :: es)) o).map fun H => (none, H, n) else none
  | some (.mi es) => k.i64?.bind fun k => if a.1 = M.ki ∧ (-9223372036854775808 ≤ k ∧ k ≤ 9223372036854775807) then (H.upd (.mi ((k, v) :: es)) o).map fun H => (none, H, n) else none
  | _ => none
 | _ => none
abbrev Cl := FuncId → List E → T → Nat → Option (V × T × Nat)
def ptE (l : List (Nat × Nat)) : List E := l.map fun a => .one (.p a.1 a.2)
def esV : List V → Option (List E)
 | [] => some []
 | v :: l => v.e?.bind fun e => (esV l).map fun r => e :: r
def E.nrm : E → E
 | .one (.c (.agg vs)) => .ag (vs.toList.map .c)
 | e => e
theorem dnL_cons (ρ : En) : ∀ l : List Value, dnL ρ (l.map .c) = some l
 | [] => rfl
 | v :: l => by simp only [List.map_cons, dnL, dn, dnL_cons ρ l, Option.bind_some, Option.map_some]
theorem E.nrm_dn (ρ : En) (e : E) : dnE ρ e.nrm = dnE ρ e := by
 unfold E.nrm
 split
 ·
  simp only [dnE, dnL_cons, Option.map_some, dn, Array.toArray_toList]
 ·
  rfl
def allC : List S → Option (List Value)
 | [] => some []
 | .c v :: l => (allC l).map fun r => v :: r
 | _ => none
theorem allC_dn (ρ : En) : ∀ {l : List S} {vs : List Value}, allC l = some vs → dnL ρ l = some vs
 | [], _, h => h
 | .c v :: l, vs, h => by
  obtain ⟨r, h1, rfl⟩ := mS h
  simp only [dnL, dn, allC_dn ρ h1, Option.bind_some, Option.map_some]
def V.pk : V → V
 | .e (.ag l) => match allC l with
  | some vs => .e (.one (.c (.agg vs.toArray)))
  | none => .e (.ag l)
 | v => v
theorem V.pk_dn (ρ : En) (v : V) : dnV ρ v.pk = dnV ρ v := by
 unfold V.pk
 split
 ·
  rename_i l
  split
  ·
   rename_i vs h
   simp only [dnV, dnE, dn, allC_dn ρ h, Option.map_some]
  ·
   rfl
 ·
  rfl
def opX {P : Program} (M : Mp P) (gl : Nat → Option Nat) (cl : Cl) (σ : Fm) (H : T) (n : Nat) : Op → Option (Option V × T × Nat)
 | .alloc t => (zeroE P t).bind fun z => newO (.blk t (z.cells.toList.map .c)) H n
 | .box t x => (evO gl σ x).bind fun v => v.e?.bind fun e => boxE t e H n
 | .store t a x => (evO gl σ a).bind fun a => (evO gl σ x).bind fun v => v.e?.bind fun e => storeE P t a e.nrm H n
 | .makeSlice t l c => (evO gl σ l).bind fun l => (evO gl σ c).bind fun c => makeE P t l c H n
 | .buildSlice t len parts => (partsE gl σ parts.toList).bind fun ps => bslE P t len ps H n
 | .makeMap t none => mkMapE M t H n
 | .mapUpdate t m k v | .insert t m k v => (evO gl σ m).bind fun m => (evO gl σ k).bind fun k => (evO gl σ v).bind fun v => putE M t m k v.pk H n
 | .call ⟨.builtin .append, xs, ts⟩ => match xs.toList, ts.toList with
  | [x, y], [t, t'] => if t = t' then (evO gl σ x).bind fun x => (evO gl σ y).bind fun y => appC P t x y H n else none
  | _, _ => none
 | .call ⟨.value x, xs, _⟩ => (evO gl σ x).bind fun x => match x with
  | .e (.one (.fn k fs cs)) => (evOs gl σ xs.toList).bind fun vs => (esV vs).bind fun es => (cl k (ptE fs ++ (es ++ ptE cs)) H n).map fun r => (some r.1, r.2)
  | _ => none
 | _ => none
end Go.K.Ev
namespace Go.K.Ev
open Go Go.K Go.RowKit
section
variable {P : Program} {M : Mp P} {gl : Nat → Option Nat} {ρ : En} {σ : Fm} {s : List (Nat × Value)} {f : Nat → Value} {H : T} {C : List Chunk} {Φ : Hp} {B : Bs} {dst : Option Nat} {ty : TypeId} {pos : String} {af : Array Edge} {g : Option (Nat × Bool)} {x y z : Operand} {t t' : TypeId} {u u' v : V} {n : Nat} {r : Option V × T × Nat}
abbrev Does (M : Mp P) (B : Bs) (ρ : En) (Φ : Hp) (C : List Chunk) (r : Option V × T × Nat) (o : Operand → Value) (op : Oper) : Prop := ∀ w, (St B Φ C).p w → effX P NoPn (fun u w' => Aft M B ρ Φ r u w') ((execOp o op).run P w)
theorem Aft.new {ob : O} {c : Chunk} {H' : T} {w : World} {a : Addr × Nat} {v : V} {u : Value} (hC : CR M.mc ρ Φ H C) (hf : Fr ρ n) (hi : T.ins ob 64 H n = some H') (hk : ∀ cs, ob ≠ .kn cs) (hc : ckO M.mc (ρ.put n a) n ob = some [c]) (hv : dnV (ρ.put n a) v = some u) (h : StP B Φ (c :: C) w) : Aft M B ρ Φ (some v, H', n + 1) u w := by
 obtain ⟨C', h1, h2⟩ := CR.ins hC hf hi hk hc
 exact ⟨_, C', Φ, En.le_put hf, Hp.le_refl _, fun _ e => sJ e ▸ hv, h1, hf.put, StP.perm h h2⟩
theorem dn_new {b c k : Nat} : dnV (ρ.put n (⟨b, 0, none⟩, c)) (.e (.one (.p n k))) = some (.pointer (some ⟨b, k, none⟩)) := by
 simp only [dnV, dnE, dn, put_self, Option.map_some, add_base]
theorem dn_newS {b c m : Nat} (h : m ≤ c) : dnV (ρ.put n (⟨b, 0, none⟩, c)) (.e (.one (.sl n 0 0 m))) = some (.slice (some ⟨b, 0, none⟩) m c) := by
 simp only [dnV, dnE, dn, put_self, Option.bind_some, add_base, Nat.zero_add]
 rw [if_pos h]; rfl
theorem newO_ok {cs : List S} {xs : List Value} (hC : CR M.mc ρ Φ H C) (hf : Fr ρ n) (h : newO (.blk t cs) H n = some r) (hd : dnL ρ cs = some xs) {u : Value} {w : World} (hw : ∃ b : Nat, u = .pointer (some ⟨b, 0, none⟩) ∧ (St B Φ (.blk b t xs :: C)).p w) : Aft M B ρ Φ r u w := by
 obtain ⟨H', h1, rfl⟩ := mS h
 obtain ⟨b, rfl, hw⟩ := hw
 refine Aft.new (a := (⟨b, 0, none⟩, 0)) hC hf h1 (fun _ e => nomatch e) ?_ dn_new hw
 simp only [ckO, base_iff.2 put_self, Option.bind_some, dnL_mono (En.le_put hf) hd, Option.map_some]
theorem allocE_ok {z : Value} (hC : CR M.mc ρ Φ H C) (hf : Fr ρ n) (h1 : zeroE P t = some z) (h : newO (.blk t (z.cells.toList.map .c)) H n = some r) : Does M B ρ Φ C r (ev (fr f s)) ⟨dst, .alloc t, ty, pos, af, g⟩ := fun w hw =>
 effX_mono (fun _ _ hh => newO_ok hC hf h (dnL_cs _) hh) (e_alloc (zeroE_ok h1) w hw)
theorem boxE_ok {e : E} (hC : CR M.mc ρ Φ H C) (hf : Fr ρ n) (hx : dnE ρ e = some (ev (fr f s) x)) (h : boxE t e H n = some r) : Does M B ρ Φ C r (ev (fr f s)) ⟨dst, .box t x, ty, pos, af, g⟩ := fun w hw => by
 unfold boxE at h
 split at h
 ·
  rename_i hfl
  exact effX_mono (fun _ _ hh => newO_ok hC hf h (ecells_ok hfl hx).1 hh) (e_box rfl w hw)
 ·
  cases h
theorem storeE_ok {e : E} (hC : CR M.mc ρ Φ H C) (hf : Fr ρ n) (hx : dnV ρ u = some (ev (fr f s) x)) (hy : dnE ρ e = some (ev (fr f s) y)) (h : storeE P t u e H n = some r) : Does M B ρ Φ C r (ev (fr f s)) ⟨dst, .store t x y, ty, pos, af, g⟩ := fun w hw => by
 obtain ⟨⟨o, k⟩, h1, h⟩ := bS h
 obtain ⟨i, h2, h⟩ := bS h
 split at h
 rotate_left
 ·
  cases h
 rename_i hh
 obtain ⟨H', h3, rfl⟩ := mS h
 obtain ⟨a, c, h4, h5⟩ := V.ptr_ok h1 hx
 obtain ⟨h6, h7⟩ := ecells_ok hh.1 hy
 have h8 := dnL_len h6
 simp only [Array.length_toList] at h8
 have hsz : (P.info? t).map (·.size) = some i.size := by rw [h2]; rfl
 split at h3
 ·
  rename_i T' cs h9
  obtain ⟨cs', h10, h11⟩ := bS h3
  obtain ⟨ob, C1, c1, C2, h12, h13, rfl, h14⟩ := CR.upd hC h11 (fun _ e => nomatch e)
  rw [h9] at h12
  obtain rfl := sJ h12
  simp only [ckO, bI, mI] at h13
  obtain ⟨⟨b, cap⟩, h15, xs, h16, rfl⟩ := h13
  have h17 := base_iff.1 h15
  rw [h4] at h17
  simp only [Option.some.injEq, Prod.mk.injEq] at h17
  obtain ⟨rfl, rfl⟩ := h17
  rw [add_base] at h5
  obtain ⟨h18, h19⟩ := putCs_ok h10 h16 h6
  simp only [Array.length_toList] at h18 h19
  have h20 := h14 _ (show ckO M.mc ρ o (.blk T' cs') = _ by simp only [ckO, h15, Option.bind_some, h19, Option.map_some]; rfl)
  refine effX_mono (fun u' w' hp => ?_) (e_store (Pn := NoPn) (cs' := (xs.take k ++ ((ev (fr f s) y).cells.toList ++ xs.drop (k + (ev (fr f s) y).cells.size)))) (C' := C1 ++ ([.blk b T' (xs.take k ++ ((ev (fr f s) y).cells.toList ++ xs.drop (k + (ev (fr f s) y).cells.size)))] ++ C2)) C1.length get_mid h5 rfl hsz (by omega) h7 (by simp; omega) (by unfold splice; simp) (by simp) w hw)
  exact ⟨ρ, _, Φ, En.le_refl _, Hp.le_refl _, (fun _ e => nomatch e), h20, hf, hp⟩
 ·
  rename_i T' sz m cs h9
  split at h3
  rotate_left
  ·
   cases h3
  rename_i hpos
  obtain ⟨cs', h10, h11⟩ := bS h3
  obtain ⟨ob, C1, c1, C2, h12, h13, rfl, h14⟩ := CR.upd hC h11 (fun _ e => nomatch e)
  rw [h9] at h12
  obtain rfl := sJ h12
  simp only [ckO, bI, mI] at h13
  obtain ⟨⟨b, cap⟩, h15, xs, h16, rfl⟩ := h13
  have h17 := base_iff.1 h15
  rw [h4] at h17
  simp only [Option.some.injEq, Prod.mk.injEq] at h17
  obtain ⟨rfl, rfl⟩ := h17
  obtain ⟨h18, h19⟩ := putCs_ok h10 h16 h6
  simp only [Array.length_toList] at h18 h19
  have h20 := h14 _ (show ckO M.mc ρ o (.row T' sz m cs') = _ by simp only [ckO, h15, Option.bind_some, h19, Option.map_some]; rfl)
  obtain ⟨q, hq⟩ : ∃ q, i.size = q + 1 := ⟨i.size - 1, by omega⟩
  refine effX_mono (fun u' w' hp => ?_) (e_storeRow (Pn := NoPn) (n := q) (k := k) (xs' := (xs.take k ++ ((ev (fr f s) y).cells.toList ++ xs.drop (k + (ev (fr f s) y).cells.size)))) (u := .slice (some ⟨b, 0, none⟩) m c) (C' := C1 ++ ([.row (.slice (some ⟨b, 0, none⟩) m c) T' sz m (xs.take k ++ ((ev (fr f s) y).cells.toList ++ xs.drop (k + (ev (fr f s) y).cells.size)))] ++ C2)) C1.length get_mid h5 rfl (by rw [hsz, hq]) (by omega) h7 (by omega) (by unfold splice; simp) (by simp) w hw)
  exact ⟨ρ, _, Φ, En.le_refl _, Hp.le_refl _, (fun _ e => nomatch e), h20, hf, hp⟩
 ·
  cases h3
theorem seE_ok {e : TypeId} {z : Value} {sz by_ : Nat} (h : seE P t = some (e, z, sz, by_)) : P.underlying t = some (.slice e) ∧ (P.info? e).map (fun i => (i.zero, i.size, i.bytes)) = some (some z, sz, by_) ∧ z.cells.size = sz := by
 unfold seE at h
 split at h
 ·
  rename_i e' h1
  obtain ⟨i, h2, h⟩ := bS h
  obtain ⟨z', h3, h⟩ := bS h
  split at h
  ·
   rename_i h4
   simp only [Option.some.injEq, Prod.mk.injEq] at h
   obtain ⟨rfl, rfl, rfl, rfl⟩ := h
   exact ⟨h1, by rw [h2, Option.map_some, h3], h4⟩
  ·
   cases h
 ·
  cases h
theorem repC_ok (z : Value) : ∀ l, dnL ρ (repC z l) = some (List.replicate l z)
 | 0 => rfl
 | l + 1 => by simp [repC, dnL, dn, repC_ok z l, List.replicate_succ]
theorem newS_ok {e : TypeId} {sz l c : Nat} {cs : List S} {xs : List Value} {H' : T} {u : Value} {w : World} (hC : CR M.mc ρ Φ H C) (hf : Fr ρ n) (h : T.ins (.row e sz l cs) 64 H n = some H') (hd : dnL ρ cs = some xs) {b : Nat} (hl : l ≤ c) (hu : u = .slice (some ⟨b, 0, none⟩) l c) (hw : StP B Φ (.row (.slice (some ⟨b, 0, none⟩) l c) e sz l xs :: C) w) : Aft M B ρ Φ (some (.e (.one (.sl n 0 0 l))), H', n + 1) u w := by
 subst hu
 refine Aft.new (a := (⟨b, 0, none⟩, c)) hC hf h (fun _ e => nomatch e) ?_ (dn_newS hl) hw
 simp only [ckO, base_iff.2 put_self, Option.bind_some, dnL_mono (En.le_put hf) hd, Option.map_some]
theorem makeE_ok (hC : CR M.mc ρ Φ H C) (hf : Fr ρ n) (hx : dnV ρ u = some (ev (fr f s) x)) (hy : dnV ρ u' = some (ev (fr f s) y)) (h : makeE P t u u' H n = some r) : Does M B ρ Φ C r (ev (fr f s)) ⟨dst, .makeSlice t x y, ty, pos, af, g⟩ := fun w hw => by
 obtain ⟨⟨e, z, sz, by_⟩, h1, h⟩ := bS h
 obtain ⟨l, h2, h⟩ := bS h
 obtain ⟨c, h3, h⟩ := bS h
 split at h
 rotate_left
 ·
  cases h
 rename_i hh
 simp only at hh h
 obtain ⟨cs, h4, h⟩ := bS h
 obtain ⟨H', h5, rfl⟩ := mS h
 obtain ⟨h6, h7, h8⟩ := seE_ok h1
 obtain ⟨xs, h9, h10⟩ : ∃ xs, dnL ρ cs = some xs ∧ (madeCells z.cells (c * sz)).toList.take (l * sz) = xs := by
  split at h4
  ·
   rename_i h0
   obtain rfl := sJ h4
   subst h0
   exact ⟨[], rfl, by simp⟩
  ·
   split at h4
   ·
    rename_i z1 hs1
    obtain rfl := sJ h4
    have hz : z.cells = #[z1] := by rw [← Array.toArray_toList (xs := z.cells), hs1]
    have hsz : sz = 1 := by rw [← h8, hz]; rfl
    subst hsz
    exact ⟨_, repC_ok z1 l, by rw [hz, madeCells_one, Nat.mul_one, Nat.mul_one, List.take_replicate, Nat.min_eq_left hh.1]⟩
   ·
    cases h4
 refine effX_mono (fun u' w' hp => ?_) (e_makeSlice (Pn := NoPn) (l := l) (c := c) (n := l * sz) (natE_ok h2 hx) (natE_ok h3 hy) h6 h7 hh.1 hh.2.1 (by omega) rfl h10 w hw)
 obtain ⟨b, hu, hp⟩ := hp
 exact newS_ok hC hf h5 h9 hh.1 hu hp
theorem cyc_eq {z : Array Value} {m : Nat} : (cyc z.toList m).toArray = (Array.range m).map (z[· % z.size]!) := by
 apply Array.ext'
 simp only [cyc, Array.toList_map, Array.toList_range, Array.length_toList]
 refine List.map_congr_left fun a _ => ?_
 rw [getElem!_def, getElem!_def]
 simp
theorem bslE_ok {len : Nat} {parts : Array (Nat × Operand)} {es : List (Nat × E)} (hg : GOK gl ρ) (hF : dnF ρ σ = some s) (hC : CR M.mc ρ Φ H C) (hf : Fr ρ n) (hp : partsE gl σ parts.toList = some es) (h : bslE P t len es H n = some r) : Does M B ρ Φ C r (ev (fr f s)) ⟨dst, .buildSlice t len parts, ty, pos, af, g⟩ := fun w hw => by
 have hP := partsE_ok (f := f) hg hF hp
 obtain ⟨⟨e, z, sz, by_⟩, h1, h⟩ := bS h
 split at h
 rotate_left
 ·
  cases h
 rename_i hh
 simp only at hh h
 obtain ⟨cs, h4, h⟩ := bS h
 obtain ⟨H', h5, rfl⟩ := mS h
 obtain ⟨h6, h7, h8⟩ := seE_ok h1
 obtain ⟨ys, h9, h10⟩ := fillE_ok h4 (dnL_cs _) hP
 have hlen : ys.length = len * sz := by
  have key : ∀ {pl : Nat → Option (Nat × Nat)} {parts : List (Nat × E)} {a b : List S}, fillE pl a parts = some b → b.length = a.length := fun {pl parts} => by
   induction parts with
   | nil => intro a b h; obtain rfl := sJ h; rfl
   | cons p ps ih =>
    intro a b h
    obtain ⟨i, e⟩ := p
    obtain ⟨q, _, h⟩ := bS h
    split at h
    ·
     obtain ⟨c1, h2, h⟩ := bS h
     rw [ih h]
     unfold putCs at h2
     split at h2
     ·
      obtain rfl := sJ h2
      simp; omega
     ·
      cases h2
    ·
     cases h
  rw [dnL_len h9, key h4]; simp [cyc]
 rw [cyc_eq] at h10
 refine effX_mono (fun u' w' hp => ?_) (e_buildSlice (Pn := NoPn) h6 h7 rfl hh.1 hh.2 h10 hlen w hw)
 obtain ⟨b, hu, hp⟩ := hp
 exact newS_ok hC hf h5 h9 (Nat.le_refl _) hu hp
theorem row_form {v : Value} {T sz m : Nat} {xs : List Value} {Ψ : Hp} (h : RowS Ψ v T sz m xs) (h0 : 0 < m) : ∃ b c, v = .slice (some ⟨b, 0, none⟩) m c ∧ m ≤ c := by
 rcases h.2 with ⟨_, rfl⟩ | ⟨b, c, _, rfl, _, hc, _⟩
 ·
  omega
 ·
  exact ⟨b, c, rfl, hc⟩
theorem appE_ok (hC : CR M.mc ρ Φ H C) (hf : Fr ρ n) (hx : dnV ρ u = some (ev (fr f s) x)) (hy : dnV ρ u' = some (ev (fr f s) y)) (h : appE P t u u' H n = some r) : Does M B ρ Φ C r (ev (fr f s)) ⟨dst, .call { callee := .builtin .append, args := #[x, y], argTypes := #[t, t] }, ty, pos, af, g⟩ := fun w hw => by
 obtain ⟨⟨e, z, sz, by_⟩, h1, h⟩ := bS h
 obtain ⟨h6, h7, h8⟩ := seE_ok h1
 split at h
 rotate_left
 ·
  cases h
 rename_i o2 k2 q2 m _
 obtain ⟨c2, h2, h⟩ := bS h
 simp only at h
 split at h
 rotate_left
 ·
  cases h
 rename_i hh
 obtain ⟨a2, cap2, ys, h9, h10, h11⟩ := cells_ok (B := B) hC h2
 have h12 : dnL ρ ((c2.drop k2).take (m * sz)) = some ((ys.drop k2).take (m * sz)) := dnL_take _ (dnL_drop k2 h10)
 obtain ⟨a2', cap2', h13, h14, h15⟩ := sl_ok hy
 rw [h9] at h13
 simp only [Option.some.injEq, Prod.mk.injEq] at h13
 obtain ⟨rfl, rfl⟩ := h13
 have hlen : ((ys.drop k2).take (m * sz)).length = m * sz := by rw [dnL_len h12]; exact hh.1
 have hone := flatL_ok hh.2.2.2 h12
 have hnews : Cells (St B Φ C) (a2.add k2) ((ys.drop k2).take (m * sz)) := fun j v hj => by
  rw [add_add]
  refine h11 _ _ ?_
  rw [List.getElem?_take] at hj
  split at hj
  ·
   rwa [List.getElem?_drop] at hj
  ·
   cases hj
 have hb1 : Nat.ble 1 sz = true := by simp; omega
 split at h
 ·
  rename_i o l
  split at h
  rotate_left
  ·
   cases h
  rename_i Te sz' l' cs h16
  split at h
  rotate_left
  ·
   cases h
  rename_i hk
  obtain ⟨rfl, rfl, rfl, hk1, hk2⟩ := hk
  obtain ⟨H1, h17, h⟩ := bS h
  obtain ⟨H2, h18, rfl⟩ := mS h
  obtain ⟨ob, C1, c1, C2, h19, h20, rfl, h21⟩ := CR.del hC h17
  rw [h16] at h19
  obtain rfl := sJ h19
  simp only [ckO, bI, mI] at h20
  obtain ⟨⟨b, cap⟩, h22, xs, h23, rfl⟩ := h20
  obtain ⟨a3, cap3, h24, h25, h26⟩ := sl_ok hx
  have h27 := base_iff.1 h22
  rw [h24] at h27
  simp only [Option.some.injEq, Prod.mk.injEq] at h27
  obtain ⟨rfl, rfl⟩ := h27
  rw [add_base, Nat.sub_zero] at h26
  refine effX_mono (fun u2 w' hp => ?_) (e_append (Pn := NoPn) (C' := fun v' => C1 ++ ([.row v'.1 Te sz' (l' + m) (xs ++ (ys.drop k2).take (m * sz'))] ++ C2)) C1.length get_mid h26 h15 h6 h7 h8 hb1 hlen hnews hone (by omega) hk1 (fun v' => by simp) w hw)
  obtain ⟨v', rfl, hp⟩ := hp
  have hrow : RowS (K.hp w') v'.1 Te sz' (l' + m) (xs ++ (ys.drop k2).take (m * sz')) := hp.sat _ (List.mem_of_getElem? get_mid)
  obtain ⟨b2, c3, hv, hc3⟩ := row_form hrow (by omega)
  have hp2 : StP B Φ (.row (.slice (some ⟨b2, 0, none⟩) (l' + m) c3) Te sz' (l' + m) (xs ++ (ys.drop k2).take (m * sz')) :: (C1 ++ C2)) w' := by
   rw [← hv]
   exact StP.perm hp (by simpa using List.perm_middle.symm)
  exact newS_ok h21 hf h18 (dnL_app h23 h12) hc3 hv hp2
 ·
  split at h
  rotate_left
  ·
   cases h
  rename_i hk
  obtain ⟨H2, h18, rfl⟩ := mS h
  have hx : ev (fr f s) x = .slice none 0 0 := (sJ hx).symm
  have hw2 : (St B Φ (.row (.slice none 0 0) e sz 0 [] :: C)).p w := StP.nilRow hw e sz
  refine effX_mono (fun u2 w' hp => ?_) (e_append (Pn := NoPn) (xs := []) (C' := fun v' => .row v'.1 e sz (0 + m) ([] ++ (ys.drop k2).take (m * sz)) :: C) 0 rfl hx h15 h6 h7 h8 hb1 hlen (fun j v hj w1 hw1 => hnews j v hj w1 (StP.drop hw1 (List.sublist_cons_self _ _))) hone (by omega) (by rw [Nat.zero_add]; exact hk.1) (fun v' => rfl) w hw2)
  obtain ⟨v', rfl, hp⟩ := hp
  simp only [Nat.zero_add, List.nil_append] at hp
  have hrow : RowS (K.hp w') v'.1 e sz m ((ys.drop k2).take (m * sz)) := hp.sat _ (List.mem_cons_self ..)
  obtain ⟨b2, c3, hv, hc3⟩ := row_form hrow (by omega)
  rw [hv] at hp
  exact newS_ok hC hf h18 h12 hc3 hv hp
 ·
  cases h
theorem RowS.cut {b k m cap T' sz : Nat} {xs : List Value} (h : RowS Φ (.slice (some ⟨b, 0, none⟩) k cap) T' sz k xs) (hm : m ≤ k) : RowS Φ (.slice (some ⟨b, 0, none⟩) m cap) T' sz m (xs.take (m * sz)) := by
 obtain ⟨hl, hs⟩ := h
 have hmk : m * sz ≤ k * sz := Nat.mul_le_mul_right _ hm
 refine ⟨by rw [List.length_take, hl]; omega, .inr ?_⟩
 rcases hs with ⟨h1, _⟩ | ⟨g, cap', cur, h1, h2, h3, h4, h5, h6⟩
 ·
  cases h1
 ·
  simp only [Value.slice.injEq, Option.some.injEq, Addr.mk.injEq, and_true, true_and] at h1
  obtain ⟨rfl, rfl⟩ := h1
  exact ⟨b, cap, cur, rfl, h2, by omega, h4, h5, by rw [← h6, List.take_take, Nat.min_eq_left hmk]⟩
theorem StP.chg {C1 C2 : List Chunk} {c c' : Chunk} {w : World} (h : StP B Φ (C1 ++ ([c] ++ C2)) w) (hf : c'.fp = c.fp) (hs : c.sat (hp w) → c'.sat (hp w)) : StP B Φ (C1 ++ ([c'] ++ C2)) w := by
 have ha : ∀ d : Chunk, c'.apart d ↔ c.apart d := fun d => by unfold Chunk.apart; rw [hf]
 have hb : ∀ d : Chunk, d.apart c' ↔ d.apart c := fun d => by unfold Chunk.apart; rw [hf]
 refine ⟨h.os, h.tape, h.output, h.size, h.drawn, h.old, h.phi, h.orig, fun d hd => ?_, ?_, fun b hb2 => h.away b ?_⟩
 ·
  simp only [List.mem_append, List.mem_cons, List.not_mem_nil, or_false] at hd
  rcases hd with hd | rfl | hd
  ·
   exact h.sat d (by simp [hd])
  ·
   exact hs (h.sat c (by simp))
  ·
   exact h.sat d (by simp [hd])
 ·
  have hp := h.sep
  simp only [List.singleton_append, List.pairwise_append, List.pairwise_cons, List.mem_cons] at hp ⊢
  obtain ⟨p1, ⟨p2, p3⟩, p4⟩ := hp
  refine ⟨p1, ⟨fun d hd => (ha d).2 (p2 d hd), p3⟩, fun a ha2 d hd => ?_⟩
  rcases hd with rfl | hd
  ·
   exact (hb a).2 (p4 a ha2 c (.inl rfl))
  ·
   exact p4 a ha2 d (.inr hd)
 ·
  simp only [List.flatMap_append, List.flatMap_cons, List.flatMap_nil, List.append_nil, hf] at hb2 ⊢
  exact hb2
theorem cutE_ok (hC : CR M.mc ρ Φ H C) {H' : T} (h : cutE u H = some H') : ∃ C', CR M.mc ρ Φ H' C' ∧ ∀ w, StP B Φ C w → StP B Φ C' w := by
 unfold cutE at h
 split at h
 rotate_left
 ·
  cases h
 rename_i o l
 split at h
 rotate_left
 ·
  cases h
 rename_i Te sz l' cs h1
 split at h
 rotate_left
 ·
  cases h
 rename_i hl
 obtain ⟨x, C1, c, C2, h2, h3, rfl, h4⟩ := CR.upd hC h (fun _ e => nomatch e)
 rw [h1] at h2
 obtain rfl := sJ h2
 simp only [ckO, bI, mI] at h3
 obtain ⟨⟨b, cap⟩, h5, xs, h6, rfl⟩ := h3
 refine ⟨_, h4 [.row (.slice (some ⟨b, 0, none⟩) l cap) Te sz l (xs.take (l * sz))] (by simp only [ckO, h5, Option.bind_some, dnL_take _ h6, Option.map_some]), fun w hw => ?_⟩
 exact StP.chg hw rfl fun hs => RowS.cut (show RowS (hp w) _ _ _ _ _ from hs) (by omega)
theorem appC_ok (hC : CR M.mc ρ Φ H C) (hf : Fr ρ n) (hx : dnV ρ u = some (ev (fr f s) x)) (hy : dnV ρ u' = some (ev (fr f s) y)) (h : appC P t u u' H n = some r) : Does M B ρ Φ C r (ev (fr f s)) ⟨dst, .call { callee := .builtin .append, args := #[x, y], argTypes := #[t, t] }, ty, pos, af, g⟩ := by
 unfold appC at h
 split at h
 ·
  rename_i H' h1
  obtain ⟨C', h2, h3⟩ := cutE_ok (B := B) hC h1
  exact fun w hw => appE_ok h2 hf hx hy h w (h3 w hw)
 ·
  exact appE_ok hC hf hx hy h
theorem mkMapE_ok (hC : CR M.mc ρ Φ H C) (hf : Fr ρ n) (h : mkMapE M t H n = some r) : Does M B ρ Φ C r (ev (fr f s)) ⟨dst, .makeMap t none, ty, pos, af, g⟩ := fun w hw => by
 obtain ⟨⟨kt, z⟩, h1, h⟩ := bS h
 obtain ⟨ob, h2, h⟩ := bS h
 obtain ⟨H2, h18, rfl⟩ := mS h
 simp only at h2
 have hd : ∀ {b : Nat}, dnV (ρ.put n (⟨b, 0, none⟩, 0)) (.e (.one (.mp n))) = some (.map (some b)) := fun {b} => by
  simp only [dnV, dnE, dn, put_self, Option.map_some]
 split at h2
 ·
  obtain rfl := sJ h2
  refine effX_mono (fun u2 w' hp => ?_) (e_kmake (Pn := NoPn) M.LS id w hw)
  obtain ⟨b, rfl, hp⟩ := hp
  refine Aft.new (a := (⟨b, 0, none⟩, 0)) hC hf h18 (fun _ e => nomatch e) ?_ hd hp
  simp only [ckO, base_iff.2 put_self, Option.bind_some, mpS, Option.map_some]; rfl
 ·
  split at h2
  ·
   obtain rfl := sJ h2
   refine effX_mono (fun u2 w' hp => ?_) (e_kmake (Pn := NoPn) M.LI id w hw)
   obtain ⟨b, rfl, hp⟩ := hp
   refine Aft.new (a := (⟨b, 0, none⟩, 0)) hC hf h18 (fun _ e => nomatch e) ?_ hd hp
   simp only [ckO, base_iff.2 put_self, Option.bind_some, mpI, Option.map_some]; rfl
  ·
   cases h2
theorem putE_ok (hC : CR M.mc ρ Φ H C) (hf : Fr ρ n) (hx : dnV ρ u = some (ev (fr f s) x)) (hy : dnV ρ u' = some (ev (fr f s) y)) (hz : dnV ρ v = some (ev (fr f s) z)) (h : putE M t u u' v H n = some r) : Does M B ρ Φ C r (ev (fr f s)) ⟨none, .mapUpdate t x y z, ty, pos, af, g⟩ := fun w hw => by
 obtain ⟨⟨kt, zv⟩, h1, h⟩ := bS h
 obtain ⟨sv, h2, h⟩ := bS h
 obtain ⟨et, h3, h4⟩ := mpT_ok h1
 have hz := V.one_ok h2 hz
 split at h
 rotate_left
 ·
  cases h
 rename_i o _ _
 simp only [dnV, dnE, dn, mI] at hx
 obtain ⟨⟨a, c⟩, h5, h6⟩ := hx
 split at h
 ·
  rename_i es h7
  obtain ⟨k, h8, h⟩ := bS h
  split at h
  rotate_left
  ·
   cases h
  rename_i hk
  obtain ⟨H2, h9, hr⟩ := mS h
  subst hr
  obtain ⟨rfl, hk⟩ := hk
  obtain ⟨ob, C1, c1, C2, h12, h13, rfl, h14⟩ := CR.upd hC h9 (fun _ e => nomatch e)
  rw [h7] at h12
  obtain rfl := sJ h12
  simp only [ckO, bI, mI] at h13
  obtain ⟨⟨b, cap⟩, h15, xs, h16, rfl⟩ := h13
  have h17 := base_iff.1 h15
  rw [h5] at h17
  simp only [Option.some.injEq, Prod.mk.injEq] at h17
  obtain ⟨rfl, rfl⟩ := h17
  have h20 := h14 _ (show ckO M.mc ρ o (.ms ((k, sv) :: es)) = _ by simp only [ckO, h15, Option.bind_some, mpS, hz, h16, Option.map_some]; rfl)
  have hy : ev (fr f s) y = M.LS.enc k := by rw [M.hS]; exact V.str_ok h8 hy
  refine effX_mono (fun u' w' hp => ?_) (e_kPut (Pn := NoPn) (L := M.LS) (ew := id) (k := k) (v := ev (fr f s) z) (C' := C1 ++ ([M.mc.s b (asM ((k, ev (fr f s) z) :: xs))] ++ C2)) C1.length get_mid h6.symm hy rfl (M.gS k hk) h3 (by simp; rfl) w hw)
  exact ⟨ρ, _, Φ, En.le_refl _, Hp.le_refl _, (fun _ e => nomatch e), h20, hf, hp⟩
 ·
  rename_i es h7
  obtain ⟨k, h8, h⟩ := bS h
  split at h
  rotate_left
  ·
   cases h
  rename_i hk
  obtain ⟨H2, h9, hr⟩ := mS h
  subst hr
  obtain ⟨rfl, hk⟩ := hk
  obtain ⟨ob, C1, c1, C2, h12, h13, rfl, h14⟩ := CR.upd hC h9 (fun _ e => nomatch e)
  rw [h7] at h12
  obtain rfl := sJ h12
  simp only [ckO, bI, mI] at h13
  obtain ⟨⟨b, cap⟩, h15, xs, h16, rfl⟩ := h13
  have h17 := base_iff.1 h15
  rw [h5] at h17
  simp only [Option.some.injEq, Prod.mk.injEq] at h17
  obtain ⟨rfl, rfl⟩ := h17
  have h20 := h14 _ (show ckO M.mc ρ o (.mi ((k, sv) :: es)) = _ by simp only [ckO, h15, Option.bind_some, mpI, hz, h16, Option.map_some]; rfl)
  have hy : ev (fr f s) y = M.LI.enc k := by rw [M.hI]; exact V.i64_ok h8 hy
  refine effX_mono (fun u' w' hp => ?_) (e_kPut (Pn := NoPn) (L := M.LI) (ew := id) (k := k) (v := ev (fr f s) z) (C' := C1 ++ ([M.mc.i b (asM ((k, ev (fr f s) z) :: xs))] ++ C2)) C1.length get_mid h6.symm hy rfl (M.gI k hk) h3 (by simp; rfl) w hw)
  exact ⟨ρ, _, Φ, En.le_refl _, Hp.le_refl _, (fun _ e => nomatch e), h20, hf, hp⟩
 ·
  cases h
/-! ### calls -/
def ClOK (M : Mp P) (gl : Nat → Option Nat) (cl : Cl) : Prop := ∀ (k : FuncId) (args : List E) (H : T) (n : Nat) (r : V × T × Nat), cl k args H n = some r → ∀ (ρ : En) (Φ : Hp) (C : List Chunk) (xs : List Value) (w : World), GOK gl ρ → dnEs ρ args = some xs → CR M.mc ρ Φ H C → Fr ρ n → StP ⟨w, Φ, fps C⟩ Φ C w → Own P k ∧ Calls P k xs.toArray w fun e w' => ∃ u, e = .returned u ∧ Aft M ⟨w, Φ, fps C⟩ ρ Φ (some r.1, r.2) u w'
theorem dnEs_app : ∀ {l r : List E} {xs ys}, dnEs ρ l = some xs → dnEs ρ r = some ys → dnEs ρ (l ++ r) = some (xs ++ ys)
 | [], r, xs, ys, e, h => by cases e; simpa using h
 | a :: l, r, xs, ys, e, h => by
  simp only [dnEs, bI, mI] at e
  obtain ⟨x, h1, zs, h2, rfl⟩ := e
  simp [dnEs, h1, dnEs_app h2 h]
theorem ptE_ok : ∀ {l : List (Nat × Nat)} {xs}, dps ρ l = some xs → dnEs ρ (ptE l) = some xs
 | [], xs, e => e
 | a :: l, xs, e => by
  simp only [dps, bI, mI] at e
  obtain ⟨x, h1, ys, h2, rfl⟩ := e
  simp only [ptE, List.map_cons, dnEs, dnE, dn, h1, Option.map_some, Option.bind_some]
  rw [show dnEs ρ (List.map (fun a => E.one (S.p a.1 a.2)) l) = some ys from ptE_ok h2]; rfl
theorem esV_ok : ∀ {vs : List V} {es : List E} {xs}, esV vs = some es → dnVs ρ vs = some xs → dnEs ρ es = some xs
 | [], es, xs, h, e => by obtain rfl := sJ h; exact e
 | v :: vs, es, xs, h, e => by
  obtain ⟨e1, h1, h⟩ := bS h
  obtain ⟨r, h2, rfl⟩ := mS h
  simp only [dnVs, bI, mI] at e
  obtain ⟨x, h3, ys, h4, rfl⟩ := e
  simp [dnEs, V.e_ok h1 h3, esV_ok h2 h4]
theorem Aft.frame {B : Bs} {r : Option V × T × Nat} {u : Value} {w w' : World} (hw : StP B Φ C w) (h : Aft M ⟨w, Φ, fps C⟩ ρ Φ r u w') : Aft M B ρ Φ r u w' := by
 obtain ⟨ρ', C', Φ', h1, h2, h3, h4, h5, h6⟩ := h
 exact ⟨ρ', C', Φ', h1, h2, h3, h4, h5, by have := StP.frameL (A := C) (C := []) (by rw [List.append_nil]; exact hw) h6; rwa [List.append_nil] at this⟩
theorem callE_ok {cl : Cl} (hcl : ClOK M gl cl) (hg : GOK gl ρ) (hF : dnF ρ σ = some s) (hC : CR M.mc ρ Φ H C) (hf : Fr ρ n) {xs : Array Operand} {ts : Array TypeId} {k : FuncId} {fs cs : List (Nat × Nat)} {vs : List V} {es : List E} {r : V × T × Nat} (hx : dnV ρ (.e (.one (.fn k fs cs))) = some (ev (fr f s) x)) (h1 : evOs gl σ xs.toList = some vs) (h2 : esV vs = some es) (h : cl k (ptE fs ++ (es ++ ptE cs)) H n = some r) :
  Does M B ρ Φ C (some r.1, r.2) (ev (fr f s)) ⟨dst, .call ⟨.value x, xs, ts⟩, ty, pos, af, g⟩ := fun w hw => by
 simp only [dnV, dnE, dn, bI, mI] at hx
 obtain ⟨xs1, h3, ys1, h4, h5⟩ := hx
 have h6 := dnEs_app (ptE_ok h3) (dnEs_app (esV_ok h2 (evOs_ok (f := f) hg hF h1)) (ptE_ok h4))
 obtain ⟨hO, hc⟩ := hcl k _ H n r h ρ Φ C _ w hg h6 hC hf (StP.hand (A := C) (C := []) (B := B) (by rw [List.append_nil]; exact hw))
 rw [run_call (args := (xs1 ++ (xs.toList.map (ev (fr f s)) ++ ys1)).toArray) hO h5.symm (by simp) w]
 exact hc.mono fun e w' hh => by
  obtain ⟨u, rfl, ha⟩ := hh
  exact .inl ⟨u, rfl, ha.frame hw⟩
theorem opX_ok {cl : Cl} (hcl : ClOK M gl cl) (hg : GOK gl ρ) (hF : dnF ρ σ = some s) (hC : CR M.mc ρ Φ H C) (hf : Fr ρ n) {op : Op} (h : opX M gl cl σ H n op = some r) : Does M B ρ Φ C r (ev (fr f s)) ⟨dst, op, ty, pos, af, g⟩ := by
 have eo : ∀ {x : Operand} {v : V}, evO gl σ x = some v → dnV ρ v = some (ev (fr f s) x) := fun h => evO_ok hg hF h
 unfold opX at h
 split at h
 ·
  obtain ⟨z, h1, h⟩ := bS h
  exact allocE_ok hC hf h1 h
 ·
  obtain ⟨v, h1, h⟩ := bS h
  obtain ⟨e, h2, h⟩ := bS h
  exact boxE_ok hC hf (V.e_ok h2 (eo h1)) h
 ·
  obtain ⟨a, h1, h⟩ := bS h
  obtain ⟨v, h2, h⟩ := bS h
  obtain ⟨e, h3, h⟩ := bS h
  exact storeE_ok hC hf (eo h1) ((E.nrm_dn _ _).trans (V.e_ok h3 (eo h2))) h
 ·
  obtain ⟨a, h1, h⟩ := bS h
  obtain ⟨b, h2, h⟩ := bS h
  exact makeE_ok hC hf (eo h1) (eo h2) h
 ·
  obtain ⟨ps, h1, h⟩ := bS h
  exact bslE_ok hg hF hC hf h1 h
 ·
  exact mkMapE_ok hC hf h
 ·
  obtain ⟨a, h1, h⟩ := bS h
  obtain ⟨b, h2, h⟩ := bS h
  obtain ⟨c, h3, h⟩ := bS h
  exact putE_ok (ty := ty) (pos := pos) (af := af) (g := g) hC hf (eo h1) (eo h2) ((V.pk_dn _ _).trans (eo h3)) h
 ·
  obtain ⟨a, h1, h⟩ := bS h
  obtain ⟨b, h2, h⟩ := bS h
  obtain ⟨c, h3, h⟩ := bS h
  exact putE_ok (ty := ty) (pos := pos) (af := af) (g := g) hC hf (eo h1) (eo h2) ((V.pk_dn _ _).trans (eo h3)) h
 ·
  rename_i xs ts
  split at h
  ·
   rename_i x y t t' e1 e2
   split at h
   ·
    rename_i ht
    subst ht
    obtain ⟨a, h1, h⟩ := bS h
    obtain ⟨b, h2, h⟩ := bS h
    have hx : xs = #[x, y] := by rw [← Array.toArray_toList (xs := xs), e1]
    have ht : ts = #[t, t] := by rw [← Array.toArray_toList (xs := ts), e2]
    subst hx; subst ht
    exact appC_ok hC hf (eo h1) (eo h2) h
   ·
    cases h
  ·
   cases h
 ·
  obtain ⟨a, h1, h⟩ := bS h
  split at h
  ·
   obtain ⟨vs, h2, h⟩ := bS h
   obtain ⟨es, h3, h⟩ := bS h
   obtain ⟨r1, h4, rfl⟩ := mS h
   exact callE_ok hcl hg hF hC hf (eo h1) h2 h3 h4
  ·
   cases h
 ·
  cases h
end
end Go.K.Ev
namespace Go.K.Ev
open Go Go.K Go.RowKit
def V.isUn : V → Bool
 | .e (.one (.c (.tuple l))) => l.toList.isEmpty
 | _ => false
def grdE (ops : Array Oper) (σ : Fm) : Option (Nat × Bool) → Option Bool
 | none => some true
 | some (j, want) => ((ops[j]?).bind (·.dst)).bind fun gd => (lkF σ gd).bind fun v => match v.bool? with
  | some b => some (b == want)
  | none => bif v.isUn then some false else none
def putF (N : Nat) (σ : Fm) : Option Nat → Option V → Option Fm
 | none, _ => some σ
 | some d, some v => bif Nat.blt d N then some ((d, v) :: σ) else none
 | some _, none => none
def opE {P : Program} (M : Mp P) (gl : Nat → Option Nat) (cl : Cl) (σ : Fm) (H : T) (n : Nat) (op : Op) : Option (Option V × T × Nat) :=
 match opQ M gl σ H op with
 | some v => some (some v, H, n)
 | none => opX M gl cl σ H n op
def regE {P : Program} (M : Mp P) (gl : Nat → Option Nat) (cl : Cl) (N : Nat) (ops : Array Oper) : List Oper → Fm → T → Nat → Option (Fm × T × Nat)
 | [], σ, H, n => some (σ, H, n)
 | o :: r, σ, H, n => (grdE ops σ o.guard).bind fun g => bif g then
   (opE M gl cl σ H n o.op).bind fun a => (putF N σ o.dst a.1).bind fun σ => regE M gl cl N ops r σ a.2.1 a.2.2
  else (putF N σ o.dst (some (.k undef))).bind fun σ => regE M gl cl N ops r σ H n
section
variable {P : Program} {M : Mp P} {gl : Nat → Option Nat} {ρ : En} {σ : Fm} {s : List (Nat × Value)} {f : Nat → Value} {H : T} {C : List Chunk} {Φ : Hp} {B : Bs} {n N : Nat} {cl : Cl} {ops : Array Oper} {Q : Exit → Act → World → Prop} {D : List Deferred}
theorem Aft.refl {v : V} {u : Value} {w : World} (hC : CR M.mc ρ Φ H C) (hf : Fr ρ n) (hv : dnV ρ v = some u) (hw : StP B Φ C w) : Aft M B ρ Φ (some v, H, n) u w :=
 ⟨ρ, C, Φ, En.le_refl _, Hp.le_refl _, fun _ e => sJ e ▸ hv, hC, hf, hw⟩
theorem opE_ok (hcl : ClOK M gl cl) (hg : GOK gl ρ) (hF : dnF ρ σ = some s) (hC : CR M.mc ρ Φ H C) (hf : Fr ρ n) {dst : Option Nat} {op : Op} {ty : TypeId} {pos : String} {af : Array Edge} {g : Option (Nat × Bool)} {r : Option V × T × Nat} (h : opE M gl cl σ H n op = some r) : Does M B ρ Φ C r (ev (fr f s)) ⟨dst, op, ty, pos, af, g⟩ := by
 unfold opE at h
 split at h
 ·
  rename_i v h1
  obtain rfl := sJ h
  obtain ⟨u, h2, h3⟩ := opQ_ok (B := B) (dst := dst) (ty := ty) (pos := pos) (af := af) (g := g) hg hF hC h1
  exact fun w hw => effX_mono (fun x w' hh => by
   obtain ⟨rfl, hb⟩ := hh
   exact Aft.refl hC hf h2 ((St B Φ C).ext w w' hw hb)) (effX_of_quietX (h3 w hw))
 ·
  exact opX_ok hcl hg hF hC hf h
theorem grdE_ok (hF : dnF ρ σ = some s) {g : Option (Nat × Bool)} {b : Bool} (h : grdE ops σ g = some b) {a : Act} (ha : Rel N D (fr f s) a) {o : Oper} (ho : o.guard = g) : Region.wanted o (yielded ops a.tmps) = b := by
 obtain ⟨dst, op, ty, pos, af, g'⟩ := o
 simp only at ho
 subst ho
 cases g' with
 | none => exact sJ h
 | some p =>
  obtain ⟨j, want⟩ := p
  obtain ⟨gd, h1, h⟩ := bS h
  obtain ⟨v, h2, h⟩ := bS h
  obtain ⟨x, h3, h4⟩ := lkF_fr (f := f) hF h2
  split at h
  ·
   rename_i b' h5
   obtain rfl := sJ h
   have h6 := V.bool_ok h5 h3
   subst h6
   have hyy := yielded_of (ops := ops) ha h1 h4
   simp [Region.wanted, hyy]
  ·
   cases h6 : v.isUn with
   | false => rw [h6] at h; cases h
   | true =>
    rw [h6] at h
    obtain rfl := sJ h
    have h7 : x = undef := by
     unfold V.isUn at h6
     split at h6
     ·
      rename_i l _
      obtain rfl := sJ h3
      have : l = #[] := by
       have := List.isEmpty_iff.1 h6
       rw [← Array.toArray_toList (xs := l), this]
      rw [this]; rfl
     ·
      cases h6
    rw [h7] at h4
    have hyy := yielded_undef (ops := ops) ha h1 h4
    simp [Region.wanted, hyy]
def okD (N : Nat) : Option Nat → Bool
 | some d => Nat.blt d N
 | none => true
def addS (v : Value) (s : List (Nat × Value)) : Option Nat → List (Nat × Value)
 | some d => (d, v) :: s
 | none => s
theorem rel_put {a : Act} {dst : Option Nat} (h : Rel N D (fr f s) a) (hd : okD N dst = true) (v : Value) : Rel N D (fr f (addS v s dst)) (a.put dst v) := by
 cases dst with
 | none => exact h
 | some d => exact h.put hd v
theorem putF_ok (hF : dnF ρ σ = some s) {dst : Option Nat} {v : Option V} {σ' : Fm} {u : Value} (h : putF N σ dst v = some σ') (hv : ∀ x, v = some x → dnV ρ x = some u) : okD N dst = true ∧ dnF ρ σ' = some (addS u s dst) := by
 cases dst with
 | none => obtain rfl := sJ h; exact ⟨rfl, hF⟩
 | some d =>
  cases v with
  | none => cases h
  | some x =>
   cases hb : Nat.blt d N with
   | false => simp [putF, hb] at h
   | true =>
    simp only [putF, hb, cond_true, Option.some.injEq] at h
    subst h
    exact ⟨hb, by simp [dnF, hv x rfl, hF, addS]⟩
def Goes (M : Mp P) (gl : Nat → Option Nat) (B : Bs) (ρ : En) (Φ : Hp) (r : Fm × T × Nat) (K : List (Nat × Value) → Cls → Prop) : Prop :=
 ∀ ρ' Φ' C' s', En.le ρ ρ' → Hp.le Φ Φ' → GOK gl ρ' → dnF ρ' r.1 = some s' → CR M.mc ρ' Φ' r.2.1 C' → Fr ρ' r.2.2 → K s' (St B Φ' C')
theorem Goes.step {ρ' : En} {Φ' : Hp} {r : Fm × T × Nat} {K : List (Nat × Value) → Cls → Prop} (h : Goes M gl B ρ Φ r K) (h1 : En.le ρ ρ') (h2 : Hp.le Φ Φ') : Goes M gl B ρ' Φ' r K := fun ρ2 Φ2 C2 s2 h3 h4 h5 h6 h7 h8 => h ρ2 Φ2 C2 s2 (h1.trans h3) (Hp.le_trans h2 h4) h5 h6 h7 h8
theorem regE_ok (hcl : ClOK M gl cl) : ∀ {l : List Oper} {σ : Fm} {H : T} {n : Nat} {r : Fm × T × Nat} {ρ : En} {Φ : Hp} {C : List Chunk} {s : List (Nat × Value)}, regE M gl cl N ops l σ H n = some r → GOK gl ρ → dnF ρ σ = some s → CR M.mc ρ Φ H C → Fr ρ n → (∀ c a w, a.defers = D → NoPn c w → Q (.panic c) a w) →
  Goes M gl B ρ Φ r (fun s' J => Post N D Q .normal f s' J) → RW P N D ops Q l f s (St B Φ C)
 | [], σ, H, n, r, ρ, Φ, C, s, h, hg, hF, hC, hf, hQ, k => by
  obtain rfl := sJ h
  exact RW.nil (k ρ Φ C s (En.le_refl _) (Hp.le_refl _) hg hF hC hf)
 | ⟨dst, op, ty, pos, af, g⟩ :: l, σ, H, n, r, ρ, Φ, C, s, h, hg, hF, hC, hf, hQ, k => fun a w ha hw => by
  unfold regE at h
  obtain ⟨gb, h1, h⟩ := bS h
  have hwant := grdE_ok (N := N) (D := D) (f := f) hF h1 ha rfl
  refine wpList_step fun K hK => ?_
  rw [hwant]
  cases gb with
  | true =>
   simp only [cond_true] at h
   obtain ⟨⟨v, H1, n1⟩, h2, h⟩ := bS h
   obtain ⟨σ1, h3, h⟩ := bS h
   rw [if_pos rfl]
   have hd := opE_ok (B := B) (f := f) (dst := dst) (ty := ty) (pos := pos) (af := af) (g := g) hcl hg hF hC hf h2
   refine upon_eff (Pn := NoPn) (R := fun u w' => Aft M B ρ Φ (v, H1, n1) u w') (by rw [ha.eval]; exact hd w hw) (fun u w' hA => ?_) (fun c w' hc => hQ c a w' ha.defers hc)
   obtain ⟨ρ', C', Φ', h4, h5, h6, h7, h8, h9⟩ := hA
   obtain ⟨h10, h11⟩ := putF_ok (dnF_mono h4 hF) h3 h6
   exact hK _ _ (regE_ok hcl h (hg.mono h4) h11 h7 h8 hQ (k.step h4 h5) _ w' (rel_put ha h10 u) h9)
  | false =>
   simp only [cond_false] at h
   obtain ⟨σ1, h3, h⟩ := bS h
   rw [if_neg (by simp)]
   obtain ⟨h10, h11⟩ := putF_ok (u := undef) hF h3 (fun x e => by obtain rfl := sJ e; rfl)
   exact hK _ _ (regE_ok hcl h hg h11 hC hf hQ k _ w (rel_put ha h10 undef) hw)
end
end Go.K.Ev
namespace Go.K.Ev
open Go Go.K Go.RowKit
def maskE : List Edge → Nat
 | [] => 0
 | e :: l => bif Region.binds .any e then Nat.lor (Nat.pow 2 e.on) (maskE l) else maskE l
def inM (m a : Nat) : Bool := Nat.beq (Nat.land a m) a
def rdyF (m : Nat) : List Nat → Nat → List Nat
 | [], _ => []
 | a :: r, i => bif !(Nat.testBit m i) && inM m a then i :: rdyF m r (i + 1) else rdyF m r (i + 1)
theorem maskE_bit : ∀ (l : List Edge) (i : Nat), (maskE l).testBit i = l.any fun e => Region.binds .any e && e.on == i
 | [], i => by simp [maskE]
 | e :: l, i => by
  unfold maskE
  rw [List.any_cons]
  cases hb : Region.binds .any e with
  | true =>
   simp only [cond_true, Bool.true_and]
   rw [← maskE_bit l i]
   show (2 ^ e.on ||| maskE l).testBit i = _
   rw [Nat.testBit_or, Nat.testBit_two_pow]
   congr 1
  | false => simp only [cond_false, Bool.false_and, Bool.false_or]; exact maskE_bit l i
theorem inM_iff {m a : Nat} : inM m a = true ↔ ∀ i, a.testBit i = true → m.testBit i = true := by
 unfold inM
 constructor
 ·
  intro h i hi
  have h1 : a &&& m = a := nB h
  rw [← h1, Nat.testBit_and] at hi
  exact (Bool.and_eq_true_iff.1 hi).2
 ·
  intro h
  have h1 : a &&& m = a := Nat.eq_of_testBit_eq fun i => by
   rw [Nat.testBit_and]
   cases hi : a.testBit i with
   | false => rfl
   | true => rw [h i hi]; rfl
  show Nat.beq (a &&& m) a = true
  rw [h1]; exact Nat.beq_refl a
structure IsM (n : Nat) (listed : Array Bool) (m : Nat) : Prop where
 sz : listed.size = n
 bit : ∀ i, listed.getD i false = m.testBit i
theorem IsM.t {n : Nat} {listed : Array Bool} {m i : Nat} (h : IsM n listed m) (hi : i < n) : listed.getD i true = m.testBit i := by
 rw [← h.bit i]
 have : i < listed.size := by rw [h.sz]; exact hi
 simp [Array.getD_eq_getD_getElem?, this]
theorem IsM.set {n : Nat} {listed : Array Bool} {m k : Nat} (h : IsM n listed m) (hk : k < n) : IsM n (listed.setIfInBounds k true) (Nat.lor m (Nat.pow 2 k)) := by
 refine ⟨by simp [h.sz], fun i => ?_⟩
 show _ = (m ||| 2 ^ k).testBit i
 rw [Nat.testBit_or, Nat.testBit_two_pow, ← h.bit i]
 simp only [Array.getD_eq_getD_getElem?, Array.getElem?_setIfInBounds]
 by_cases hi : k = i
 ·
  subst hi
  have : k < listed.size := by rw [h.sz]; exact hk
  simp [this]
 ·
  simp [hi]
def masks (l : List Oper) : List Nat := l.map fun o => maskE o.after.toList
theorem all_in {listed : Array Bool} {m n : Nat} (h : IsM n listed m) (as : Array Edge) : (as.all fun e => !Region.binds .any e || listed.getD e.on false) = inM m (maskE as.toList) := by
 rw [Bool.eq_iff_iff, inM_iff, Array.all_eq_true']
 constructor
 ·
  intro h1 i hi
  rw [maskE_bit] at hi
  obtain ⟨e, he, hb⟩ := List.any_eq_true.1 hi
  simp only [Bool.and_eq_true, beq_iff_eq] at hb
  have := h1 e (Array.mem_toList_iff.1 he)
  rw [hb.1, h.bit, hb.2] at this
  simpa using this
 ·
  intro h1 e he
  cases hb : Region.binds .any e with
  | false => rfl
  | true =>
   rw [h.bit]
   simp only [Bool.not_true, Bool.false_or]
   refine h1 e.on ?_
   rw [maskE_bit]
   exact List.any_eq_true.2 ⟨e, Array.mem_toList_iff.2 he, by simp [hb]⟩
theorem rdyF_eq {m : Nat} {p : Nat → Bool} : ∀ (ms : List Nat) (i : Nat), (∀ j a, ms[j]? = some a → p (i + j) = (!(Nat.testBit m (i + j)) && inM m a)) → (List.range' i ms.length).filter p = rdyF m ms i
 | [], i, _ => rfl
 | a :: r, i, h => by
  rw [List.length_cons, List.range'_succ, List.filter_cons]
  have h0 := h 0 a rfl
  simp only [Nat.add_zero] at h0
  have ih := rdyF_eq r (i + 1) fun j b hj => by
   have := h (j + 1) b (by simpa using hj)
   rwa [show i + (j + 1) = i + 1 + j by omega] at this
  unfold rdyF
  rw [h0, ih]
  cases (!(Nat.testBit m i) && inM m a) <;> simp
theorem ready_eq {l : List Oper} {listed : Array Bool} {m : Nat} (h : IsM l.length listed m) : Region.ready .any l.toArray listed = rdyF m (masks l) 0 := by
 unfold Region.ready
 have hl : (masks l).length = l.length := by simp [masks]
 rw [show l.toArray.size = (masks l).length by simp [hl], List.range_eq_range']
 refine rdyF_eq (masks l) 0 fun j a hj => ?_
 obtain ⟨hjl, ha⟩ := List.getElem?_eq_some_iff.1 hj
 have hj' : j < l.length := by rw [← hl]; exact hjl
 rw [Nat.zero_add, h.t hj', List.getElem?_toArray, List.getElem?_eq_getElem hj', Option.map_some, Option.getD_some, all_in h]
 congr 2
 rw [← ha]; simp [masks]
def freeF (oi : Oper) (k m : Nat) (ops : Array Oper) : List Oper → List Nat → Nat → Bool
 | o :: l, a :: ms, j => (Nat.beq j k || (Nat.testBit m j || (Nat.testBit a k || oi.apart ops o))) && freeF oi k m ops l ms (j + 1)
 | _, _, _ => true
theorem freeF_cons {oi x : Oper} {k m i : Nat} {ops : Array Oper} {l : List Oper} : freeF oi k m ops (x :: l) (masks (x :: l)) i = ((Nat.beq i k || (Nat.testBit m i || (Nat.testBit (maskE x.after.toList) k || oi.apart ops x))) && freeF oi k m ops l (masks l) (i + 1)) := rfl
theorem freeF_ok {oi : Oper} {k m : Nat} {ops : Array Oper} : ∀ (l : List Oper) (i : Nat), freeF oi k m ops l (masks l) i = true → ∀ j o, l[j]? = some o → (Nat.beq (i + j) k || (Nat.testBit m (i + j) || (Nat.testBit (maskE o.after.toList) k || oi.apart ops o))) = true
 | [], _, _, j, o, ho => by simp at ho
 | x :: l, i, h, 0, o, ho => by
  rw [freeF_cons, Bool.and_eq_true_iff] at h
  obtain rfl : x = o := by simpa using ho
  exact h.1
 | x :: l, i, h, j + 1, o, ho => by
  rw [freeF_cons, Bool.and_eq_true_iff] at h
  have := freeF_ok l (i + 1) h.2 j o (by simpa using ho)
  rwa [show i + 1 + j = i + (j + 1) by omega] at this
theorem free_ok {l : List Oper} {listed : Array Bool} {k m : Nat} {oi : Oper} (h : IsM l.length listed m) (hk : l[k]? = some oi) (hf : freeF oi k m l.toArray l (masks l) 0 = true) : Region.free .any l.toArray listed k = true := by
 unfold Region.free
 rw [List.getElem?_toArray, hk]
 simp only
 refine List.all_eq_true.2 fun j hj => ?_
 have hjl : j < l.length := by simpa using List.mem_range.1 hj
 have h1 := freeF_ok l 0 hf j l[j] (List.getElem?_eq_getElem hjl)
 rw [Nat.zero_add, maskE_bit] at h1
 rw [h.t hjl, List.getElem?_toArray, List.getElem?_eq_getElem hjl]
 simp only
 rw [← Array.any_toList]
 generalize oi.apart l.toArray l[j] = q at *
 generalize (l[j].after.toList.any fun e => Region.binds .any e && e.on == k) = q2 at *
 have e : Nat.beq j k = (j == k) := by
  rw [Bool.eq_iff_iff, beq_iff_eq]
  exact ⟨nB, fun e => e ▸ Nat.beq_refl j⟩
 rw [e] at h1
 revert h1
 cases (j == k) <;> cases Nat.testBit m j <;> simp
def isOne (k : Nat) : List Nat → Bool
 | [j] => Nat.beq j k
 | _ => false
def lexF (l : List Oper) (ms : List Nat) : List Tg → List Nat → Nat → Bool
 | _, [], m => (rdyF m ms 0).isEmpty
 | .q :: tg, k :: r, m => (match l[k]?, ms[k]? with
  | some o, some a => (!(Nat.testBit m k) && inM m a) && freeF o k m l.toArray l ms 0
  | _, _ => false) && lexF l ms tg r (Nat.lor m (Nat.pow 2 k))
 | .e :: tg, k :: r, m => (Nat.blt k l.length && isOne k (rdyF m ms 0)) && lexF l ms tg r (Nat.lor m (Nat.pow 2 k))
 | _, _, _ => false
theorem lexF_ok {l : List Oper} : ∀ {tg : List Tg} {ord : List Nat} {m : Nat} {listed : Array Bool}, lexF l (masks l) tg ord m = true → IsM l.length listed m → lexT .any l.toArray tg ord listed = true
 | tg, [], m, listed, h, hM => by
  have h1 : (Region.ready .any l.toArray listed).isEmpty = true := by
   rw [ready_eq hM]
   cases tg with
   | nil => exact h
   | cons b t => cases b <;> exact h
  cases tg with
  | nil => exact h1
  | cons b t => cases b <;> cases t <;> exact h1
 | .q :: tg, k :: r, m, listed, h, hM => by
  obtain ⟨h1, h2⟩ := Bool.and_eq_true_iff.1 h
  split at h1
  rotate_left
  ·
   cases h1
  rename_i o a ho ha
  obtain ⟨h3, h4⟩ := Bool.and_eq_true_iff.1 h1
  have hk : k < l.length := (List.getElem?_eq_some_iff.1 ho).1
  simp only [lexT, Bool.and_eq_true]
  refine ⟨⟨?_, free_ok hM ho h4⟩, lexF_ok h2 (hM.set hk)⟩
  obtain ⟨h5, h6⟩ := Bool.and_eq_true_iff.1 h3
  rw [List.contains_iff_mem]
  refine mem_ready.2 ⟨by rw [hM.t hk]; simpa using h5, o, by simpa using ho, fun e he hb => ?_⟩
  have ha' : a = maskE o.after.toList := by
   have : (masks l)[k]? = some (maskE o.after.toList) := by simp [masks, ho]
   rw [this] at ha
   exact (sJ ha).symm
  rw [ha', ← all_in hM] at h6
  have := Array.all_eq_true'.1 h6 e he
  rw [hb] at this
  simpa using this
 | .e :: tg, k :: r, m, listed, h, hM => by
  obtain ⟨h1, h2⟩ := Bool.and_eq_true_iff.1 h
  obtain ⟨h3, h4⟩ := Bool.and_eq_true_iff.1 h1
  have hk : k < l.length := by simpa using h3
  simp only [lexT, Bool.and_eq_true]
  refine ⟨?_, lexF_ok h2 (hM.set hk)⟩
  rw [ready_eq hM]
  unfold isOne at h4
  split at h4
  ·
   rename_i j hj
   rw [hj, nB h4]; simp
  ·
   cases h4
 | .p :: _, _ :: _, _, _, h, _ => by cases h
 | [], _ :: _, _, _, h, _ => by cases h
def lexFB (l : List Oper) (tg : List Tg) (ord : List Nat) : Bool := Region.noSelect l.toArray && waitsZ .any l.toArray (lastOf l.toArray tg) && tg.length == l.toArray.size && ord.length == l.toArray.size && (ord.all fun i => Nat.blt i l.toArray.size) && endsIn tg ord l.toArray.size && lexF l (masks l) tg ord 0
theorem lexFB_ok {l : List Oper} {tg : List Tg} {ord : List Nat} (h : lexFB l tg ord = true) : lexZB .any l.toArray tg ord = true := by
 unfold lexFB at h
 unfold lexZB
 obtain ⟨h1, h2⟩ := Bool.and_eq_true_iff.1 h
 rw [Bool.and_eq_true_iff]
 exact ⟨h1, lexF_ok h2 ⟨by simp, fun i => by simp [Array.getD_eq_getD_getElem?, Array.getElem?_replicate]; split <;> rfl⟩⟩
end Go.K.Ev
namespace Go.K.Ev
open Go Go.K Go.RowKit
/-! ### equal objects -/
def vEq1 : Value → Value → Bool
 | .int k n, .int k' n' => decide (k = k') && decide (n = n')
 | .bool a, .bool b => decide (a = b)
 | .string a, .string b => decide (a.data.toList = b.data.toList)
 | .pointer none, .pointer none => true
 | .slice none 0 0, .slice none 0 0 => true
 | .map none, .map none => true
 | .nilFunc, .nilFunc => true
 | .nilIface, .nilIface => true
 | _, _ => false
theorem vEq1_ok {a b : Value} (h : vEq1 a b = true) : a = b := by
 unfold vEq1 at h
 split at h
 ·
  simp only [Bool.and_eq_true, decide_eq_true_eq] at h; rw [h.1, h.2]
 ·
  rw [odT h]
 ·
  rename_i a b
  have h := odT h
  have : a.data = b.data := by rw [← Array.toArray_toList (xs := a.data), h]
  cases a; cases b; simp only at this; rw [this]
 ·
  rfl
 ·
  rfl
 ·
  rfl
 ·
  rfl
 ·
  rfl
 ·
  cases h
def vEqL : List Value → List Value → Bool
 | [], [] => true
 | a :: l, b :: r => vEq1 a b && vEqL l r
 | _, _ => false
theorem vEqL_ok : ∀ {a b : List Value}, vEqL a b = true → a = b
 | [], [], _ => rfl
 | a :: l, b :: r, h => by
  simp only [vEqL, Bool.and_eq_true] at h
  rw [vEq1_ok h.1, vEqL_ok h.2]
 | [], _ :: _, h => by cases h
 | _ :: _, [], h => by cases h
def vEq : Value → Value → Bool
 | .agg a, .agg b => vEqL a.toList b.toList
 | a, b => vEq1 a b
theorem vEq_ok {a b : Value} (h : vEq a b = true) : a = b := by
 unfold vEq at h
 split at h
 ·
  rename_i a b
  rw [← Array.toArray_toList (xs := a), vEqL_ok h, Array.toArray_toList]
 ·
  exact vEq1_ok h
def sEq : S → S → Bool
 | .c a, .c b => vEq a b
 | .p o k, .p o' k' => Nat.beq o o' && Nat.beq k k'
 | .sl o k q n, .sl o' k' q' n' => Nat.beq o o' && Nat.beq k k' && Nat.beq q q' && Nat.beq n n'
 | .fn f a b, .fn f' a' b' => Nat.beq f f' && decide (a = a') && decide (b = b')
 | .mp o, .mp o' => Nat.beq o o'
 | _, _ => false
theorem sEq_ok {a b : S} (h : sEq a b = true) : a = b := by
 have e := @Nat.eq_of_beq_eq_true
 unfold sEq at h
 split at h
 ·
  rw [vEq_ok h]
 ·
  simp only [Bool.and_eq_true] at h; rw [e h.1, e h.2]
 ·
  simp only [Bool.and_eq_true] at h; rw [e h.1.1.1, e h.1.1.2, e h.1.2, e h.2]
 ·
  simp only [Bool.and_eq_true, decide_eq_true_eq] at h; rw [e h.1.1, h.1.2, h.2]
 ·
  rw [e h]
 ·
  cases h
def sEqL : List S → List S → Bool
 | [], [] => true
 | a :: l, b :: r => sEq a b && sEqL l r
 | _, _ => false
theorem sEqL_ok : ∀ {a b : List S}, sEqL a b = true → a = b
 | [], [], _ => rfl
 | a :: l, b :: r, h => by
  simp only [sEqL, Bool.and_eq_true] at h
  rw [sEq_ok h.1, sEqL_ok h.2]
 | [], _ :: _, h => by cases h
 | _ :: _, [], h => by cases h
def mEq {κ : Type} [DecidableEq κ] : List (κ × S) → List (κ × S) → Bool
 | [], [] => true
 | a :: l, b :: r => decide (a.1 = b.1) && sEq a.2 b.2 && mEq l r
 | _, _ => false
theorem mEq_ok {κ : Type} [DecidableEq κ] : ∀ {a b : List (κ × S)}, mEq a b = true → a = b
 | [], [], _ => rfl
 | a :: l, b :: r, h => by
  simp only [mEq, Bool.and_eq_true, decide_eq_true_eq] at h
  rw [mEq_ok h.2, show a = b from Prod.ext h.1.1 (sEq_ok h.1.2)]
 | [], _ :: _, h => by cases h
 | _ :: _, [], h => by cases h
def oEq : O → O → Bool
 | .blk T cs, .blk T' cs' => Nat.beq T T' && sEqL cs cs'
 | .row T sz n cs, .row T' sz' n' cs' => Nat.beq T T' && Nat.beq sz sz' && Nat.beq n n' && sEqL cs cs'
 | .kn cs, .kn cs' => sEqL cs cs'
 | .ms a, .ms b => mEq a b
 | .mi a, .mi b => mEq a b
 | _, _ => false
theorem oEq_ok {a b : O} (h : oEq a b = true) : a = b := by
 have e := @Nat.eq_of_beq_eq_true
 unfold oEq at h
 split at h
 ·
  simp only [Bool.and_eq_true] at h; rw [e h.1, sEqL_ok h.2]
 ·
  simp only [Bool.and_eq_true] at h; rw [e h.1.1.1, e h.1.1.2, e h.1.2, sEqL_ok h.2]
 ·
  rw [sEqL_ok h]
 ·
  rw [mEq_ok h]
 ·
  rw [mEq_ok h]
 ·
  cases h
/-! ### a part of a memory -/
theorem T.del_get : ∀ {t t' : T} {m n : Nat}, t.del m = some t' → n ≠ m → t'.get n = t.get n
 | .node o l r, t', m, n, h, hn => by
  unfold T.del at h
  cases h0 : Nat.beq m 0 with
  | true =>
   rw [h0] at h
   simp only [cond_true] at h
   cases o with
   | none => cases h
   | some x =>
    obtain rfl := sJ h
    have hm := nB h0
    have : Nat.beq n 0 = false := by
     cases hh : Nat.beq n 0 with
     | false => rfl
     | true => exact absurd ((nB hh).trans hm.symm) hn
    simp only [T.get, this, cond_false]
  | false =>
   rw [h0] at h
   simp only [cond_false] at h
   cases h1 : Nat.beq (m % 2) 1 with
   | true =>
    rw [h1] at h
    obtain ⟨l', h2, rfl⟩ := mS (by simpa using h)
    simp only [T.get]
    cases hn0 : Nat.beq n 0 with
    | true => rfl
    | false =>
     cases hn1 : Nat.beq (n % 2) 1 with
     | false => rfl
     | true =>
      simp only [cond_true, cond_false]
      exact T.del_get h2 fun e => hn (by have := odd_eq h0 h1; have := odd_eq hn0 hn1; omega)
   | false =>
    rw [h1] at h
    obtain ⟨l', h2, rfl⟩ := mS (by simpa using h)
    simp only [T.get]
    cases hn0 : Nat.beq n 0 with
    | true => rfl
    | false =>
     cases hn1 : Nat.beq (n % 2) 1 with
     | true => rfl
     | false =>
      simp only [cond_false]
      exact T.del_get h2 fun e => hn (by have := even_eq h0 h1; have := even_eq hn0 hn1; omega)
theorem T.del_some : ∀ {t : T} {n : Nat} {x : O}, t.get n = some x → ∃ t', t.del n = some t'
 | .node o l r, n, x, h => by
  unfold T.get at h
  unfold T.del
  cases h0 : Nat.beq n 0 with
  | true => rw [h0] at h; simp only [cond_true] at h ⊢; subst h; exact ⟨_, rfl⟩
  | false =>
   rw [h0] at h
   simp only [cond_false] at h ⊢
   cases h1 : Nat.beq (n % 2) 1 with
   | true =>
    rw [h1] at h
    obtain ⟨t', h2⟩ := T.del_some (t := l) (by simpa using h)
    exact ⟨_, by simp [h2]; rfl⟩
   | false =>
    rw [h1] at h
    obtain ⟨t', h2⟩ := T.del_some (t := r) (by simpa using h)
    exact ⟨_, by simp [h2]; rfl⟩
theorem T.keys : ∀ {t : T} {g : Nat → Nat}, (∀ a b, g a = g b → a = b) → ((t.toL g).map (·.1)).Nodup ∧ ∀ k ∈ (t.toL g).map (·.1), ∃ m, k = g m
 | .nil, g, hg => ⟨List.nodup_nil, fun k hk => by cases hk⟩
 | .node o l r, g, hg => by
  obtain ⟨a1, a2⟩ := T.keys (t := l) (g := fun k => g (2 * k + 1)) fun a b e => by have := hg _ _ e; omega
  obtain ⟨b1, b2⟩ := T.keys (t := r) (g := fun k => g (2 * k + 2)) fun a b e => by have := hg _ _ e; omega
  have ho : ∀ k ∈ (oL (g 0) o).map (·.1), k = g 0 := fun k hk => by
   cases o with
   | none => cases hk
   | some x => simpa [oL] using hk
  have hn : ((oL (g 0) o).map (·.1)).Nodup := by cases o <;> simp [oL]
  simp only [T.toL, List.map_append]
  refine ⟨List.nodup_append.2 ⟨hn, List.nodup_append.2 ⟨a1, b1, fun x hx y hy e => ?_⟩, fun x hx y hy e => ?_⟩, fun k hk => ?_⟩
  ·
   obtain ⟨m, rfl⟩ := a2 x hx
   obtain ⟨m', rfl⟩ := b2 y hy
   have := hg _ _ e; omega
  ·
   rw [ho x hx] at e
   rcases List.mem_append.1 hy with h | h
   ·
    obtain ⟨m, rfl⟩ := a2 y h; have := hg _ _ e; omega
   ·
    obtain ⟨m, rfl⟩ := b2 y h; have := hg _ _ e; omega
  ·
   rcases List.mem_append.1 hk with h | h
   ·
    exact ⟨0, ho k h⟩
   ·
    rcases List.mem_append.1 h with h | h
    ·
     obtain ⟨m, rfl⟩ := a2 k h; exact ⟨_, rfl⟩
    ·
     obtain ⟨m, rfl⟩ := b2 k h; exact ⟨_, rfl⟩
theorem sub_perm {mc : Mc} {ρ : En} : ∀ {L0 : List (Nat × O)} {H : T} {C : List Chunk}, (L0.map (·.1)).Nodup → ckL mc ρ H.l = some C → (∀ p ∈ L0, H.get p.1 = some p.2) → ∃ C0 R, ckL mc ρ L0 = some C0 ∧ C.Perm (C0 ++ R)
 | [], H, C, _, _, _ => ⟨[], C, rfl, List.Perm.refl _⟩
 | p :: L0, H, C, hn, hc, hg => by
  have hp := hg p (List.mem_cons_self ..)
  obtain ⟨H', h1⟩ := T.del_some hp
  obtain ⟨x, L1, L2, e0, e, e'⟩ := T.del_L id h1
  rw [hp] at e0
  obtain rfl := sJ e0
  rw [T.l, e] at hc
  obtain ⟨C1, c, C2, rfl, h3, h4, h5⟩ := ckL_cut hc
  simp only [List.map_cons, List.nodup_cons] at hn
  obtain ⟨C0, R, h6, h7⟩ := sub_perm (L0 := L0) (H := H') (C := C1 ++ C2) hn.2 (by rw [T.l, e']; exact ckL_join h3 h5) fun q hq => by
   rw [T.del_get h1 fun e => hn.1 (by rw [← e]; exact List.mem_map_of_mem hq)]
   exact hg q (List.mem_cons_of_mem _ hq)
  refine ⟨c ++ C0, R, by simp only [ckL]; rw [show ckO mc ρ p.1 p.2 = some c from h4]; simp [h6], ?_⟩
  exact (List.perm_append_comm_assoc C1 c C2).trans (by rw [List.append_assoc]; exact h7.append_left c)
def subT (H0 H : T) : Bool := (H0.toL id).all fun p => match H.get p.1 with
 | some x => oEq p.2 x
 | none => false
theorem subT_ok {mc : Mc} {B : Bs} {ρ τ : En} {Φ Ψ : Hp} {H0 H : T} {C0 C : List Chunk} (h0 : CR mc ρ Φ H0 C0) (h : CR mc τ Ψ H C) (hr : En.le ρ τ) (hl : Hp.le Φ Ψ) (hs : subT H0 H = true) {w : World} (hw : StP B Ψ C w) : StP B Φ C0 w := by
 have hg : ∀ p ∈ H0.l, H.get p.1 = some p.2 := fun p hp => by
  have := List.all_eq_true.1 hs p hp
  split at this
  ·
   rename_i x hx; rw [hx, oEq_ok this]
  ·
   cases this
 obtain ⟨C1, R, h1, h2⟩ := sub_perm (L0 := H0.l) (T.keys (t := H0) (g := id) fun a b e => e).1 h.ck hg
 have h3 := ckL_mono hr h0.ck
 rw [h1] at h3
 obtain rfl := sJ h3
 exact StP.less ((StP.perm hw h2.symm).drop (List.sublist_append_left ..)) hl
def restr (H : T) : List Nat → T → T
 | [], t => t
 | o :: l, t => match H.get o with
  | some x => (match T.ins x 64 t o with | some t' => restr H l t' | none => restr H l t)
  | none => restr H l t
theorem restr_ok {mc : Mc} {ρ : En} {Φ : Hp} {H : T} {C : List Chunk} (h : CR mc ρ Φ H C) : ∀ {l : List Nat} {t : T} {C0 : List Chunk}, CR mc ρ Φ t C0 → ∃ C1, CR mc ρ Φ (restr H l t) C1
 | [], t, C0, ht => ⟨C0, ht⟩
 | o :: l, t, C0, ht => by
  unfold restr
  split
  ·
   rename_i x hx
   split
   ·
    rename_i t' h1
    obtain ⟨L1, L2, e, e'⟩ := T.ins_L id h1
    obtain ⟨K1, K2, e2⟩ := T.get_L id hx
    have hk := h.ck
    rw [T.l, e2] at hk
    obtain ⟨_, c, _, _, _, h4, _⟩ := ckL_cut hk
    have hk0 := ht.ck
    rw [T.l, e] at hk0
    obtain ⟨C1, C2, _, h5, h6⟩ := ckL_app hk0
    refine restr_ok h (C0 := C1 ++ (c ++ C2)) ⟨by rw [T.l, e']; exact ckL_put h5 h4 h6, fun o' cs hm => ?_⟩
    rw [T.l, e'] at hm
    simp only [List.mem_append, List.mem_cons] at hm
    rcases hm with h7 | h7 | h7
    ·
     exact ht.kn o' cs (by rw [T.l, e]; exact List.mem_append_left _ h7)
    ·
     refine h.kn o' cs ?_
     rw [T.l, e2, h7]; simp
    ·
     exact ht.kn o' cs (by rw [T.l, e]; exact List.mem_append_right _ h7)
   ·
    exact restr_ok h ht
  ·
   exact restr_ok h ht
/-! ### the order of the walk -/
def isEff : Op → Bool
 | .alloc _ | .box _ _ | .store _ _ _ | .makeSlice _ _ _ | .buildSlice _ _ _ | .makeMap _ _ | .mapUpdate _ _ _ _ | .insert _ _ _ _ => true
 | .call ⟨.value _, _, _⟩ | .call ⟨.builtin .append, _, _⟩ => true
 | _ => false
def isRead : Op → Bool
 | .load _ _ | .lookup _ _ _ _ => true
 | _ => false
def isData (e : Edge) : Bool := match e.ground with
 | .data => true
 | _ => false
def tagsE : List Oper → List Bool → List Tg
 | [], _ => []
 | o :: l, acc => let d := o.after.toList.any fun e => isData e && acc.getD e.on false
  (bif isEff o.op || (isRead o.op && d) then .e else .q) :: tagsE l (acc ++ [isEff o.op || d])
def isQ : Tg → Bool
 | .q => true
 | _ => false
def planE (ms : List Nat) (ts : List Tg) : Nat → Nat → List (Tg × Nat)
 | 0, _ => []
 | f + 1, m => let rs := rdyF m ms 0
  match (rs.find? fun i => isQ (ts.getD i .q)) with
  | some i => (.q, i) :: planE ms ts f (Nat.lor m (Nat.pow 2 i))
  | none => match rs with
   | i :: _ => (.e, i) :: planE ms ts f (Nat.lor m (Nat.pow 2 i))
   | [] => []
def plan (l : List Oper) : List Tg × List Nat := let p := planE (masks l) (tagsE l []) l.length 0; (p.map (·.1), p.map (·.2))
def dryE {P : Program} (M : Mp P) (gl : Nat → Option Nat) (N : Nat) (H : T) : List Tg → List Oper → Fm → List Nat
 | .q :: tg, o :: r, σ => match opQ M gl σ H o.op with
  | some v => (match o.op with
   | .load _ a => match (evO gl σ a).bind V.ptr? with | some p => [p.1] | none => []
   | .lookup _ m _ _ => match evO gl σ m with | some (.e (.one (.mp k))) => [k] | _ => []
   | _ => []) ++ dryE M gl N H tg r ((putF N σ o.dst (some v)).getD σ)
  | none => dryE M gl N H tg r ((putF N σ o.dst (some (.k undef))).getD σ)
 | _ :: tg, _ :: r, σ => dryE M gl N H tg r σ
 | _, _, _ => []
def drwE {P : Program} (M : Mp P) (gl : Nat → Option Nat) (cl : Cl) (N : Nat) (ops : Array Oper) (H0 : T) : List Tg → List Oper → Fm → T → Nat → Option (Fm × T × Nat)
 | [], [], σ, H, n => some (σ, H, n)
 | .q :: tg, o :: r, σ, H, n => (grdE ops σ o.guard).bind fun g => (bif g then opQ M gl σ H0 o.op else some (.k undef)).bind fun v => (putF N σ o.dst (some v)).bind fun σ => drwE M gl cl N ops H0 tg r σ H n
 | .e :: tg, o :: r, σ, H, n => (grdE ops σ o.guard).bind fun g => bif g then
   (opE M gl cl σ H n o.op).bind fun a => (putF N σ o.dst a.1).bind fun σ => bif r.isEmpty || subT H0 a.2.1 then drwE M gl cl N ops H0 tg r σ a.2.1 a.2.2 else none
  else (putF N σ o.dst (some (.k undef))).bind fun σ => drwE M gl cl N ops H0 tg r σ H n
 | _, _, _, _, _ => none
def dregE {P : Program} (M : Mp P) (gl : Nat → Option Nat) (cl : Cl) (N : Nat) (l : List Oper) (σ : Fm) (H : T) (n : Nat) : Option (Fm × T × Nat) :=
 let p := plan l
 let os := pickOps l p.2
 bif lexFB l p.1 p.2 then
  let H0 := restr H (dryE M gl N H p.1 os σ) .nil
  bif subT H0 H then drwE M gl cl N l.toArray H0 p.1 os σ H n else none
 else none
section
variable {P : Program} {M : Mp P} {gl : Nat → Option Nat} {ρ : En} {σ : Fm} {s : List (Nat × Value)} {f : Nat → Value} {H H0 : T} {C C0 : List Chunk} {Φ Φ0 : Hp} {B : Bs} {n N : Nat} {cl : Cl} {ops : Array Oper} {Q : Exit → Act → World → Prop} {D : List Deferred}
theorem drwE_ok (hcl : ClOK M gl cl) {ρ0 : En} (h0 : CR M.mc ρ0 Φ0 H0 C0) : ∀ {tg : List Tg} {l : List Oper} {σ : Fm} {H : T} {n : Nat} {r : Fm × T × Nat} {ρ : En} {Φ : Hp} {C : List Chunk} {s : List (Nat × Value)}, drwE M gl cl N ops H0 tg l σ H n = some r → En.le ρ0 ρ → Hp.le Φ0 Φ → (l ≠ [] → subT H0 H = true) → GOK gl ρ → dnF ρ σ = some s → CR M.mc ρ Φ H C → Fr ρ n →
  Goes M gl B ρ Φ r (fun s' J => Post N D Q .normal f s' J) → DW P NoPn N D ops (St B Φ0 C0) Q tg l f s (St B Φ C)
 | [], [], σ, H, n, r, ρ, Φ, C, s, h, hr, hl, hs, hg, hF, hC, hf, k => by
  obtain rfl := sJ h
  exact DW.nil (k ρ Φ C s (En.le_refl _) (Hp.le_refl _) hg hF hC hf)
 | .q :: tg, ⟨dst, op, ty, pos, af, g⟩ :: l, σ, H, n, r, ρ, Φ, C, s, h, hr, hl, hs, hg, hF, hC, hf, k => fun a ha => by
  unfold drwE at h
  obtain ⟨gb, h1, k1⟩ := bS h
  obtain ⟨v, h2, k2⟩ := bS k1
  obtain ⟨σ1, h3, k3⟩ := bS k2
  clear h k1 k2
  have hwant := grdE_ok (N := N) (D := D) (f := f) hF h1 ha rfl
  have hsub := hs (by simp)
  refine ⟨fun w hw => subT_ok h0 hC hr hl hsub hw, ?_⟩
  cases gb with
  | true =>
   obtain ⟨u, h4, h5⟩ := opQ_ok (B := B) (f := f) (dst := dst) (ty := ty) (pos := pos) (af := af) (g := g) hg hF (h0.mono hr (Hp.le_refl _)) (show opQ M gl σ H0 op = some v from h2)
   obtain ⟨h10, h11⟩ := putF_ok (u := u) hF h3 (fun x e => by obtain rfl := sJ e; exact h4)
   exact ⟨u, .inl ⟨hwant, fun w hw => by rw [ha.eval]; exact h5 w hw⟩, drwE_ok hcl h0 k3 hr hl (fun _ => hsub) hg h11 hC hf k _ (rel_put ha h10 u)⟩
  | false =>
   obtain rfl := sJ h2
   obtain ⟨h10, h11⟩ := putF_ok (u := undef) hF h3 (fun x e => by obtain rfl := sJ e; rfl)
   exact ⟨undef, .inr ⟨hwant, rfl⟩, drwE_ok hcl h0 k3 hr hl (fun _ => hsub) hg h11 hC hf k _ (rel_put ha h10 undef)⟩
 | .e :: tg, ⟨dst, op, ty, pos, af, g⟩ :: l, σ, H, n, r, ρ, Φ, C, s, h, hr, hl, hs, hg, hF, hC, hf, k => fun a ha => by
  unfold drwE at h
  obtain ⟨gb, h1, h⟩ := bS h
  have hwant := grdE_ok (N := N) (D := D) (f := f) hF h1 ha rfl
  show K.opX P NoPn ops _ _ a _
  unfold K.opX
  cases gb with
  | true =>
   simp only [cond_true] at h
   obtain ⟨⟨v, H1, n1⟩, h2, h⟩ := bS h
   obtain ⟨σ1, h3, h⟩ := bS h
   rw [if_pos hwant]
   intro w hw
   rw [ha.eval]
   refine effX_mono (fun u w' hA => ?_) (opE_ok (B := B) (f := f) (dst := dst) (ty := ty) (pos := pos) (af := af) (g := g) hcl hg hF hC hf h2 w hw)
   obtain ⟨ρ', C', Φ', h4, h5, h6, h7, h8, h9⟩ := hA
   obtain ⟨h10, h11⟩ := putF_ok (dnF_mono h4 hF) h3 h6
   have hb : (l.isEmpty || subT H0 H1) = true := by
    cases hh : (l.isEmpty || subT H0 H1) with
    | true => rfl
    | false => simp only [hh, cond_false] at h; cases h
   simp only [hb, cond_true] at h
   have hsub : l ≠ [] → subT H0 H1 = true := fun hne => by
    cases l with
    | nil => exact absurd rfl hne
    | cons _ _ => simpa using hb
   exact ⟨St B Φ' C', h9, fun hne w1 hw1 => subT_ok h0 h7 (hr.trans h4) (Hp.le_trans hl h5) (hsub hne) hw1, drwE_ok hcl h0 h (hr.trans h4) (Hp.le_trans hl h5) hsub (hg.mono h4) h11 h7 h8 (k.step h4 h5) _ (rel_put ha h10 u)⟩
  | false =>
   simp only [cond_false] at h
   obtain ⟨σ1, h3, h⟩ := bS h
   rw [if_neg (by rw [hwant]; simp)]
   obtain ⟨h10, h11⟩ := putF_ok (u := undef) hF h3 (fun x e => by obtain rfl := sJ e; rfl)
   have hsub := hs (by simp)
   exact ⟨fun _ w1 hw1 => subT_ok h0 hC hr hl hsub hw1, drwE_ok hcl h0 h hr hl (fun _ => hsub) hg h11 hC hf k _ (rel_put ha h10 undef)⟩
 | .p :: tg, _, _, _, _, _, _, _, _, _, h, _, _, _, _, _, _, _, _ => by cases h
 | [], _ :: _, _, _, _, _, _, _, _, _, h, _, _, _, _, _, _, _, _ => by cases h
 | .q :: _, [], _, _, _, _, _, _, _, _, h, _, _, _, _, _, _, _, _ => by cases h
 | .e :: _, [], _, _, _, _, _, _, _, _, h, _, _, _, _, _, _, _, _ => by cases h
theorem dregE_ok (hcl : ClOK M gl cl) (hm : P.follows .mixedOrders = true) {l : List Oper} {id : Nat} {r : Fm × T × Nat} [PanQ D Q NoPn] (h : dregE M gl cl N l σ H n = some r) (hg : GOK gl ρ) (hF : dnF ρ σ = some s) (hC : CR M.mc ρ Φ H C) (hf : Fr ρ n) (k : Goes M gl B ρ Φ r (fun s' J => Post N D Q .normal f s' J)) : AW P N D (.region id l.toArray true) Q f s (St B Φ C) := by
 unfold dregE at h
 simp only at h
 cases hB : lexFB l (plan l).1 (plan l).2 with
 | false => rw [hB] at h; cases h
 | true =>
  rw [hB] at h
  simp only [cond_true] at h
  obtain ⟨C0, h0⟩ := restr_ok hC (l := dryE M gl N H (plan l).1 (pickOps l (plan l).2) σ) (t := .nil) (C0 := []) ⟨rfl, fun o cs hm => by cases hm⟩
  cases hs : subT (restr H (dryE M gl N H (plan l).1 (pickOps l (plan l).2) σ) .nil) H with
  | false => rw [hs] at h; cases h
  | true =>
   rw [hs] at h
   exact AW.drawZ (J0 := St B Φ C0) _ _ hm (lexFB_ok hB) (drwE_ok hcl h0 h (En.le_refl _) (Hp.le_refl _) (fun _ => hs) hg hF hC hf k)
end
end Go.K.Ev
namespace Go.K.Ev
open Go Go.K Go.RowKit
/-! ### equal results -/
def eEq : E → E → Bool
 | .one a, .one b => sEq a b
 | .ag a, .ag b => sEqL a b
 | _, _ => false
theorem eEq_ok {a b : E} (h : eEq a b = true) : a = b := by
 unfold eEq at h
 split at h
 ·
  rw [sEq_ok h]
 ·
  rw [sEqL_ok h]
 ·
  cases h
def eEqL : List E → List E → Bool
 | [], [] => true
 | a :: l, b :: r => eEq a b && eEqL l r
 | _, _ => false
theorem eEqL_ok : ∀ {a b : List E}, eEqL a b = true → a = b
 | [], [], _ => rfl
 | a :: l, b :: r, h => by
  simp only [eEqL, Bool.and_eq_true] at h
  rw [eEq_ok h.1, eEqL_ok h.2]
 | [], _ :: _, h => by cases h
 | _ :: _, [], h => by cases h
def V.eq : V → V → Bool
 | .e a, .e b => eEq a b || (V.isUn (.e a) && V.isUn (.e b))
 | .tu a, .tu b => eEqL a b
 | _, _ => false
theorem isUn_ok {v : V} (h : v.isUn = true) : v = .k undef := by
 unfold V.isUn at h
 split at h
 ·
  rename_i l
  have : l = #[] := by
   have := List.isEmpty_iff.1 h
   rw [← Array.toArray_toList (xs := l), this]
  rw [this]; rfl
 ·
  cases h
theorem V.eq_ok {a b : V} (h : V.eq a b = true) : a = b := by
 unfold V.eq at h
 split at h
 ·
  rename_i x y
  rcases Bool.or_eq_true_iff.1 h with h1 | h1
  ·
   rw [eEq_ok h1]
  ·
   simp only [Bool.and_eq_true] at h1
   exact (isUn_ok h1.1).trans (isUn_ok h1.2).symm
 ·
  rw [eEqL_ok h]
 ·
  cases h
def oEqO : Option O → Option O → Bool
 | none, none => true
 | some a, some b => oEq a b
 | _, _ => false
theorem oEqO_ok {a b : Option O} (h : oEqO a b = true) : a = b := by
 unfold oEqO at h
 split at h
 ·
  rfl
 ·
  rw [oEq_ok h]
 ·
  cases h
def T.eq : T → T → Bool
 | .nil, .nil => true
 | .node a l r, .node a' l' r' => oEqO a a' && (T.eq l l' && T.eq r r')
 | _, _ => false
theorem T.eq_ok : ∀ {a b : T}, T.eq a b = true → a = b
 | .nil, .nil, _ => rfl
 | .node a l r, .node a' l' r', h => by
  simp only [T.eq, Bool.and_eq_true] at h
  rw [oEqO_ok h.1, T.eq_ok h.2.1, T.eq_ok h.2.2]
 | .nil, .node .., h => by cases h
 | .node .., .nil, h => by cases h
/-! ### renaming: the names from n0 on -/
def rnm (n0 : Nat) (tb : List Nat) (o : Nat) : Nat := bif Nat.blt o n0 then o else match tb[o - n0]? with
 | some p => n0 + p
 | none => o
def prms (tb tc : List Nat) : Bool := Nat.beq tb.length tc.length && (List.range tb.length).all fun i => match tb[i]? with
 | some p => Nat.blt p tb.length && (match tc[p]? with | some q => Nat.beq q i | none => false)
 | none => false
theorem rnm_inv {n0 : Nat} {tb tc : List Nat} (h : prms tb tc = true) (o : Nat) : rnm n0 tc (rnm n0 tb o) = o := by
 simp only [prms, Bool.and_eq_true] at h
 unfold rnm
 cases hb : Nat.blt o n0 with
 | true => simp only [cond_true, hb]
 | false =>
  simp only [cond_false]
  cases ht : tb[o - n0]? with
  | none =>
   simp only [hb, cond_false]
   have : tc[o - n0]? = none := by
    rw [List.getElem?_eq_none_iff] at ht ⊢
    have := nB h.1; omega
   rw [this]
  | some p =>
   simp only
   have hi := List.all_eq_true.1 h.2 (o - n0) (List.mem_range.2 (List.getElem?_eq_some_iff.1 ht).1)
   simp only [ht, Bool.and_eq_true] at hi
   have hb2 : Nat.blt (n0 + p) n0 = false := by
    cases hh : Nat.blt (n0 + p) n0 with
    | false => rfl
    | true =>
     have : n0 + p < n0 := by simpa using hh
     omega
   simp only [hb2, cond_false, show n0 + p - n0 = p by omega]
   cases hc : tc[p]? with
   | none => rw [hc] at hi; exact absurd hi.2 (by simp)
   | some q =>
    rw [hc] at hi
    simp only
    have := nB hi.2
    have ho : ¬ o < n0 := fun hlt => by
     have : Nat.blt o n0 = true := by simpa using hlt
     rw [this] at hb; cases hb
    omega
def rS (π : Nat → Nat) : S → S
 | .c v => .c v
 | .p o k => .p (π o) k
 | .sl o k q n => .sl (π o) k q n
 | .fn f fs cs => .fn f (fs.map fun a => (π a.1, a.2)) (cs.map fun a => (π a.1, a.2))
 | .mp o => .mp (π o)
def rE (π : Nat → Nat) : E → E
 | .one s => .one (rS π s)
 | .ag l => .ag (l.map (rS π))
def rV (π : Nat → Nat) : V → V
 | .e e => .e (rE π e)
 | .tu l => .tu (l.map (rE π))
def rF (π : Nat → Nat) : Fm → Fm
 | [] => []
 | (d, v) :: l => (d, rV π v) :: rF π l
def rO (π : Nat → Nat) : O → O
 | .blk T cs => .blk T (cs.map (rS π))
 | .row T sz n cs => .row T sz n (cs.map (rS π))
 | .kn cs => .kn (cs.map (rS π))
 | .ms es => .ms (es.map fun a => (a.1, rS π a.2))
 | .mi es => .mi (es.map fun a => (a.1, rS π a.2))
section
variable {ρ ρ' : En} {π : Nat → Nat} (h : ∀ o, ρ' (π o) = ρ o)
include h
theorem dps_ren : ∀ l : List (Nat × Nat), dps ρ' (l.map fun a => (π a.1, a.2)) = dps ρ l
 | [] => rfl
 | a :: l => by simp only [List.map_cons, dps, h, dps_ren l]
theorem dn_ren (s : S) : dn ρ' (rS π s) = dn ρ s := by
 cases s with
 | c v => rfl
 | p o k => simp only [rS, dn, h]
 | sl o k q n => simp only [rS, dn, h]
 | fn f fs cs => simp only [rS, dn, dps_ren h]
 | mp o => simp only [rS, dn, h]
theorem dnL_ren : ∀ l : List S, dnL ρ' (l.map (rS π)) = dnL ρ l
 | [] => rfl
 | a :: l => by simp only [List.map_cons, dnL, dn_ren h, dnL_ren l]
theorem dnE_ren (e : E) : dnE ρ' (rE π e) = dnE ρ e := by
 cases e with
 | one s => exact dn_ren h s
 | ag l => simp only [rE, dnE, dnL_ren h]
theorem dnEs_ren : ∀ l : List E, dnEs ρ' (l.map (rE π)) = dnEs ρ l
 | [] => rfl
 | a :: l => by simp only [List.map_cons, dnEs, dnE_ren h, dnEs_ren l]
theorem dnV_ren (v : V) : dnV ρ' (rV π v) = dnV ρ v := by
 cases v with
 | e e => exact dnE_ren h e
 | tu l => simp only [rV, dnV, dnEs_ren h]
theorem dnF_ren : ∀ σ : Fm, dnF ρ' (rF π σ) = dnF ρ σ
 | [] => rfl
 | a :: l => by simp only [rF, dnF, dnV_ren h, dnF_ren l]
theorem mpS_ren : ∀ l : List (List UInt8 × S), mpS ρ' (l.map fun a => (a.1, rS π a.2)) = mpS ρ l
 | [] => rfl
 | a :: l => by simp only [List.map_cons, mpS, dn_ren h, mpS_ren l]
theorem mpI_ren : ∀ l : List (Int × S), mpI ρ' (l.map fun a => (a.1, rS π a.2)) = mpI ρ l
 | [] => rfl
 | a :: l => by simp only [List.map_cons, mpI, dn_ren h, mpI_ren l]
theorem ckO_ren {mc : Mc} (o : Nat) (x : O) : ckO mc ρ' (π o) (rO π x) = ckO mc ρ o x := by
 have hb : base ρ' (π o) = base ρ o := by unfold base; rw [h]
 cases x with
 | blk T cs => simp only [rO, ckO, hb, dnL_ren h]
 | row T sz n cs => simp only [rO, ckO, hb, dnL_ren h]
 | kn cs => rfl
 | ms es => simp only [rO, ckO, hb, mpS_ren h]
 | mi es => simp only [rO, ckO, hb, mpI_ren h]
end
def rbT (π : Nat → Nat) : List (Nat × O) → T → Option T
 | [], t => some t
 | (o, x) :: l, t => (T.ins (rO π x) 64 t (π o)).bind fun t => rbT π l t
theorem rbT_ok {mc : Mc} {ρ ρ' : En} {π : Nat → Nat} (h : ∀ o, ρ' (π o) = ρ o) {Φ : Hp} : ∀ {L : List (Nat × O)} {t t' : T} {CL C0 : List Chunk}, rbT π L t = some t' → ckL mc ρ L = some CL → (∀ o cs, (o, O.kn cs) ∈ L → ∃ a cap xs, ρ o = some (a, cap) ∧ dnL ρ cs = some xs ∧ ∀ k x, xs[k]? = some x → ∀ w, Hp.le Φ (hp w) → w.cell? (a.add k) = some x) → CR mc ρ' Φ t C0 → ∃ C1, CR mc ρ' Φ t' C1 ∧ C1.Perm (CL ++ C0)
 | [], t, t', CL, C0, hr, hl, _, ht => by
  obtain rfl := sJ hr
  obtain rfl := sJ hl
  exact ⟨C0, ht, List.Perm.refl _⟩
 | (o, x) :: L, t, t', CL, C0, hr, hl, hk, ht => by
  obtain ⟨t1, h1, h2⟩ := bS hr
  simp only [ckL, bI, mI] at hl
  obtain ⟨c, h3, CL', h4, rfl⟩ := hl
  obtain ⟨L1, L2, e, e'⟩ := T.ins_L id h1
  have hk0 := ht.ck
  rw [T.l, e] at hk0
  obtain ⟨C1, C2, rfl, h5, h6⟩ := ckL_app hk0
  have h7 : CR mc ρ' Φ t1 (C1 ++ (c ++ C2)) := ⟨by rw [T.l, e']; exact ckL_put h5 (by rw [id, ckO_ren h]; exact h3) h6, fun o' cs hm => by
   rw [T.l, e'] at hm
   simp only [List.mem_append, List.mem_cons, Prod.mk.injEq, id] at hm
   rcases hm with h8 | ⟨rfl, h8⟩ | h8
   ·
    exact ht.kn o' cs (by rw [T.l, e]; exact List.mem_append_left _ h8)
   ·
    cases x with
    | kn cs' =>
     simp only [rO, O.kn.injEq] at h8
     subst h8
     obtain ⟨a, cap, xs, g1, g2, g3⟩ := hk o cs' (List.mem_cons_self ..)
     exact ⟨a, cap, xs, by rw [h]; exact g1, by rw [dnL_ren h]; exact g2, g3⟩
    | _ => cases h8
   ·
    exact ht.kn o' cs (by rw [T.l, e]; exact List.mem_append_right _ h8)⟩
  obtain ⟨C3, h8, h9⟩ := rbT_ok h h2 h4 (fun o cs hm => hk o cs (List.mem_cons_of_mem _ hm)) h7
  refine ⟨C3, h8, h9.trans ?_⟩
  refine (List.Perm.append_left _ (List.perm_append_comm_assoc C1 c C2)).trans ?_
  rw [List.append_assoc]
  exact (List.perm_append_comm_assoc CL' c _)
theorem ren_ok {mc : Mc} {ρ0 ρ : En} {n0 n : Nat} {tb tc : List Nat} {Φ : Hp} {H H' : T} {C : List Chunk} (hp : prms tb tc = true) (hn : n0 + tb.length = n) (hr : rbT (rnm n0 tb) H.l .nil = some H') (h0 : Fr ρ0 n0) (hl : En.le ρ0 ρ) (hf : Fr ρ n) (hC : CR mc ρ Φ H C) :
  ∃ ρ' C', En.le ρ0 ρ' ∧ Fr ρ' n ∧ (∀ σ, dnF ρ' (rF (rnm n0 tb) σ) = dnF ρ σ) ∧ CR mc ρ' Φ H' C' ∧ C'.Perm C := by
 have hlen : tb.length = tc.length := by
  simp only [prms, Bool.and_eq_true] at hp
  exact nB hp.1
 have hi : ∀ o, (fun o => ρ (rnm n0 tc o)) (rnm n0 tb o) = ρ o := fun o => by simp only [rnm_inv hp]
 obtain ⟨C', h1, h2⟩ := rbT_ok (mc := mc) (Φ := Φ) (π := rnm n0 tb) (ρ' := fun o => ρ (rnm n0 tc o)) (t := .nil) (C0 := []) hi hr hC.ck hC.kn ⟨rfl, fun o cs hm => by cases hm⟩
 refine ⟨_, C', fun o x e => ?_, fun o ho => ?_, fun σ => dnF_ren (π := rnm n0 tb) (ρ' := fun o => ρ (rnm n0 tc o)) hi σ, h1, by simpa using h2⟩
 ·
  have ho : o < n0 := by
   rcases Nat.lt_or_ge o n0 with h | h
   ·
    exact h
   ·
    rw [h0 o h] at e; cases e
  have hb : Nat.blt o n0 = true := by simpa using ho
  simp only [rnm, hb, cond_true]
  exact hl _ _ e
 ·
  have : rnm n0 tc o = o := by
   unfold rnm
   cases hb : Nat.blt o n0 with
   | true => rfl
   | false =>
    rw [show tc[o - n0]? = none from List.getElem?_eq_none (by omega)]; rfl
  simp only [this]
  exact hf o ho
def sameF (σ τ : Fm) : Bool := τ.all fun p => match lkF σ p.1 with
 | some v => V.eq v p.2
 | none => false
theorem sameF_ok {ρ : En} {f : Nat → Value} {σ : Fm} {s : List (Nat × Value)} (hF : dnF ρ σ = some s) : ∀ {τ : Fm}, sameF σ τ = true → ∃ s', dnF ρ τ = some s' ∧ AllIn (fr f s) s'
 | [], _ => ⟨[], rfl, trivial⟩
 | p :: τ, h => by
  simp only [sameF, List.all_cons, Bool.and_eq_true] at h
  obtain ⟨h1, h2⟩ := h
  obtain ⟨s', h3, h4⟩ := sameF_ok (f := f) hF (τ := τ) h2
  split at h1
  ·
   rename_i v hv
   have := V.eq_ok h1
   subst this
   obtain ⟨x, h5, h6⟩ := lkF_fr (f := f) hF hv
   exact ⟨(p.1, x) :: s', by simp [dnF, h5, h3], h6, h4⟩
  ·
   cases h1
end Go.K.Ev
namespace Go.K.Ev
open Go Go.K Go.RowKit
theorem bif_some {α : Type} {b : Bool} {x : Option α} {r : α} (h : (bif b then x else none) = some r) : b = true ∧ x = some r := by
 cases b with
 | true => exact ⟨rfl, h⟩
 | false => cases h
def planT (ops : Array Oper) (ts : List Tg) : Nat → Array Bool → Tr
 | 0, _ => .nil
 | f + 1, listed => let rs := Region.ready .any ops listed
  match rs.find? (fun i => isQ (ts.getD i .q) && Region.free .any ops listed i) with
  | some i => .q i (planT ops ts f (listed.setIfInBounds i true))
  | none => match rs with
   | [i] => .e i (planT ops ts f (listed.setIfInBounds i true))
   | [i, j] => .f i j (planT ops ts f (listed.setIfInBounds i true)) (planT ops ts f (listed.setIfInBounds j true))
   | _ => .nil
abbrev Mk := List (Nat × Nat × Nat)
def insM (a : Nat × Nat × Nat) : Mk → Mk
 | [] => [a]
 | b :: l => bif Nat.ble a.1 b.1 then a :: b :: l else b :: insM a l
def flatM (n0 : Nat) : Mk → List Nat
 | [] => []
 | (_, lo, hi) :: l => (List.range (hi - lo)).map (fun i => lo - n0 + i) ++ flatM n0 l
def posL (l : List Nat) (k : Nat) : List Nat := (List.range k).map fun i => (l.findIdx? (Nat.beq i)).getD k
def leafE (n0 : Nat) (σ : Fm) (H : T) (n : Nat) (tr : Mk) : Option (Fm × T) :=
 let tc := flatM n0 (tr.foldr insM [])
 let tb := posL tc (n - n0)
 bif prms tb tc && Nat.beq (n0 + tb.length) n then (rbT (rnm n0 tb) H.l .nil).map fun H => (rF (rnm n0 tb) σ, H) else none
def addM : Option Nat → Nat → Nat → Mk → Mk
 | some d, a, b, tr => bif Nat.beq a b then tr else (d, a, b) :: tr
 | none, _, _, tr => tr
def TrO.isNil : TrO → Bool
 | .nil => true
 | _ => false
def wayE {P : Program} (M : Mp P) (gl : Nat → Option Nat) (cl : Cl) (N : Nat) (ops : Array Oper) (H0 : T) (z : Fm → T → Nat → Mk → Bool) : TrO → Fm → T → Nat → Mk → Bool
 | .nil, σ, H, n, tr => z σ H n tr
 | .q o t, σ, H, n, tr => match (grdE ops σ o.guard).bind fun g => (bif g then opQ M gl σ H0 o.op else some (.k undef)).bind fun v => putF N σ o.dst (some v) with
  | some σ => subT H0 H && wayE M gl cl N ops H0 z t σ H n tr
  | none => false
 | .e o t, σ, H, n, tr => match grdE ops σ o.guard with
  | some true => (match (opE M gl cl σ H n o.op).bind fun a => (putF N σ o.dst a.1).map fun σ => (σ, a.2) with
   | some (σ, H', n') => (TrO.isNil t || subT H0 H') && wayE M gl cl N ops H0 z t σ H' n' (addM o.dst n n' tr)
   | none => false)
  | _ => false
 | .f o1 o2 t1 t2, σ, H, n, tr => (match grdE ops σ o1.guard with
  | some true => (match (opE M gl cl σ H n o1.op).bind fun a => (putF N σ o1.dst a.1).map fun σ => (σ, a.2) with
   | some (σ, H', n') => subT H0 H' && wayE M gl cl N ops H0 z t1 σ H' n' (addM o1.dst n n' tr)
   | none => false)
  | _ => false) && (match grdE ops σ o2.guard with
  | some true => (match (opE M gl cl σ H n o2.op).bind fun a => (putF N σ o2.dst a.1).map fun σ => (σ, a.2) with
   | some (σ, H', n') => subT H0 H' && wayE M gl cl N ops H0 z t2 σ H' n' (addM o2.dst n n' tr)
   | none => false)
  | _ => false)
def oneE {P : Program} (M : Mp P) (gl : Nat → Option Nat) (cl : Cl) (N : Nat) (ops : Array Oper) (H0 : T) : TrO → Fm → T → Nat → Mk → Option (Fm × T × Nat × Mk)
 | .nil, σ, H, n, tr => some (σ, H, n, tr)
 | .q o t, σ, H, n, tr => match (grdE ops σ o.guard).bind fun g => (bif g then opQ M gl σ H0 o.op else some (.k undef)).bind fun v => putF N σ o.dst (some v) with
  | some σ => oneE M gl cl N ops H0 t σ H n tr
  | none => none
 | .e o t, σ, H, n, tr => match (opE M gl cl σ H n o.op).bind fun a => (putF N σ o.dst a.1).map fun σ => (σ, a.2) with
  | some (σ, H', n') => oneE M gl cl N ops H0 t σ H' n' (addM o.dst n n' tr)
  | none => none
 | .f o _ t _, σ, H, n, tr => match (opE M gl cl σ H n o.op).bind fun a => (putF N σ o.dst a.1).map fun σ => (σ, a.2) with
  | some (σ, H', n') => oneE M gl cl N ops H0 t σ H' n' (addM o.dst n n' tr)
  | none => none
def endE (n0 : Nat) (r : Fm × T × Nat) (σ : Fm) (H : T) (n : Nat) (tr : Mk) : Bool := Nat.beq n r.2.2 && match leafE n0 σ H n tr with
 | some (σ', H') => sameF σ' r.1 && T.eq H' r.2.1
 | none => false
def fregE {P : Program} (M : Mp P) (gl : Nat → Option Nat) (cl : Cl) (N : Nat) (l : List Oper) (σ : Fm) (H : T) (n : Nat) : Option (Fm × T × Nat) :=
 let ts := tagsE l []
 let t := planT l.toArray ts l.length (Array.replicate l.length false)
 bif chkTB l t then
  let p := plan l
  let H0 := restr H (dryE M gl N H p.1 (pickOps l p.2) σ) .nil
  bif subT H0 H then
   (oneE M gl cl N l.toArray H0 (pickT l t) σ H n []).bind fun a => (leafE n a.1 a.2.1 a.2.2.1 a.2.2.2).bind fun b =>
    let r := (prune b.1 [], b.2, a.2.2.1)
    bif wayE M gl cl N l.toArray H0 (endE n r) (pickT l t) σ H n [] then some r else none
  else none
 else none
section
variable {P : Program} {M : Mp P} {gl : Nat → Option Nat} {ρ : En} {σ : Fm} {s : List (Nat × Value)} {f : Nat → Value} {H H0 : T} {C C0 : List Chunk} {Φ Φ0 : Hp} {B : Bs} {n N : Nat} {cl : Cl} {ops : Array Oper} {Q : Exit → Act → World → Prop} {D : List Deferred}
def AtE (M : Mp P) (gl : Nat → Option Nat) (B : Bs) (ρ0 : En) (Φ0 : Hp) (r : Fm × T × Nat) (s' : List (Nat × Value)) (J' : Cls) : Prop := ∃ ρ' Φ' C', En.le ρ0 ρ' ∧ Hp.le Φ0 Φ' ∧ GOK gl ρ' ∧ dnF ρ' r.1 = some s' ∧ CR M.mc ρ' Φ' r.2.1 C' ∧ Fr ρ' r.2.2 ∧ J' = St B Φ' C'
theorem stepE_ok (hcl : ClOK M gl cl) (hg : GOK gl ρ) (hF : dnF ρ σ = some s) (hC : CR M.mc ρ Φ H C) (hf : Fr ρ n) {o : Oper} {σ1 : Fm} {H1 : T} {n1 : Nat} {R : Act → Cls → Prop} {a : Act} (ha : Rel N D (fr f s) a) (h1 : grdE ops σ o.guard = some true)
  (h2 : (opE M gl cl σ H n o.op).bind (fun a => (putF N σ o.dst a.1).map fun σ => (σ, a.2)) = some (σ1, H1, n1))
  (k : ∀ ρ' Φ' C' s' a', En.le ρ ρ' → Hp.le Φ Φ' → GOK gl ρ' → dnF ρ' σ1 = some s' → CR M.mc ρ' Φ' H1 C' → Fr ρ' n1 → Rel N D (fr f s') a' → R a' (St B Φ' C')) : Go.K.opX P NoPn ops o R a (St B Φ C) := by
 obtain ⟨dst, op, ty, pos, af, g⟩ := o
 have hwant := grdE_ok (N := N) (D := D) (f := f) (o := ⟨dst, op, ty, pos, af, g⟩) hF h1 ha rfl
 unfold Go.K.opX
 obtain ⟨⟨v, H2, n2⟩, h3, h4⟩ := bS h2
 obtain ⟨σ2, h5, h6⟩ := mS h4
 simp only [Prod.mk.injEq] at h6
 obtain ⟨rfl, rfl, rfl⟩ := h6
 rw [if_pos hwant]
 intro w hw
 rw [ha.eval]
 refine effX_mono (fun u w' hA => ?_) (opE_ok (B := B) (f := f) (dst := dst) (ty := ty) (pos := pos) (af := af) (g := g) hcl hg hF hC hf h3 w hw)
 obtain ⟨ρ', C', Φ', h4, h7, h6, h9, h8, h10⟩ := hA
 obtain ⟨h11, h12⟩ := putF_ok (dnF_mono h4 hF) h5 h6
 exact ⟨St B Φ' C', h10, k ρ' Φ' C' _ _ h4 h7 (hg.mono h4) h12 h9 h8 (rel_put ha h11 u)⟩
theorem isNil_ok {t : TrO} (h : t ≠ .nil) : TrO.isNil t = false := by
 cases t with
 | nil => exact absurd rfl h
 | _ => rfl
theorem wayE_ok (hcl : ClOK M gl cl) {ρ0 : En} (h0 : CR M.mc ρ0 Φ0 H0 C0) {I : List (Nat × Value) → Cls → Prop} {z : Fm → T → Nat → Mk → Bool}
  (hz : ∀ σ H n tr ρ Φ C s f, z σ H n tr = true → En.le ρ0 ρ → Hp.le Φ0 Φ → GOK gl ρ → dnF ρ σ = some s → CR M.mc ρ Φ H C → Fr ρ n → ∃ s' J', I s' J' ∧ AllIn (fr f s) s' ∧ ∀ w, StP B Φ C w → J'.p w) :
  ∀ {t : TrO} {σ : Fm} {H : T} {n : Nat} {tr : Mk} {ρ : En} {Φ : Hp} {C : List Chunk} {s : List (Nat × Value)}, wayE M gl cl N ops H0 z t σ H n tr = true → En.le ρ0 ρ → Hp.le Φ0 Φ → GOK gl ρ → dnF ρ σ = some s → CR M.mc ρ Φ H C → Fr ρ n → DT P NoPn N D ops (St B Φ0 C0) I t f s (St B Φ C) := by
 intro t
 induction t with
 | nil =>
  intro σ H n tr ρ Φ C s h hr hl hg hF hC hf
  obtain ⟨s', J', h1, h2, h3⟩ := hz σ H n tr ρ Φ C s f h hr hl hg hF hC hf
  exact DT.nil h1 h2 h3
 | q o t ih =>
  intro σ H n tr ρ Φ C s h hr hl hg hF hC hf a ha
  obtain ⟨dst, op, ty, pos, af, g⟩ := o
  unfold wayE at h
  split at h
  rotate_left
  ·
   cases h
  rename_i σ1 hq
  simp only [Bool.and_eq_true] at h
  obtain ⟨gb, h1, k1⟩ := bS hq
  obtain ⟨v, h2, h3⟩ := bS k1
  have hwant := grdE_ok (N := N) (D := D) (f := f) (o := ⟨dst, op, ty, pos, af, g⟩) hF h1 ha rfl
  refine ⟨fun w hw => subT_ok h0 hC hr hl h.1 hw, ?_⟩
  cases gb with
  | true =>
   obtain ⟨u, h4, h5⟩ := opQ_ok (B := B) (f := f) (dst := dst) (ty := ty) (pos := pos) (af := af) (g := g) hg hF (h0.mono hr (Hp.le_refl _)) (show opQ M gl σ H0 op = some v from h2)
   obtain ⟨h10, h11⟩ := putF_ok (u := u) hF h3 (fun x e => by obtain rfl := sJ e; exact h4)
   exact ⟨u, .inl ⟨hwant, fun w hw => by rw [ha.eval]; exact h5 w hw⟩, ih h.2 hr hl hg h11 hC hf _ (rel_put ha h10 u)⟩
  | false =>
   obtain rfl := sJ h2
   obtain ⟨h10, h11⟩ := putF_ok (u := undef) hF h3 (fun x e => by obtain rfl := sJ e; rfl)
   exact ⟨undef, .inr ⟨hwant, rfl⟩, ih h.2 hr hl hg h11 hC hf _ (rel_put ha h10 undef)⟩
 | e o t ih =>
  intro σ H n tr ρ Φ C s h hr hl hg hF hC hf a ha
  unfold wayE at h
  split at h
  rotate_left
  ·
   cases h
  rename_i h1
  split at h
  rotate_left
  ·
   cases h
  rename_i σ1 H1 n1 h2
  simp only [Bool.and_eq_true, Bool.or_eq_true] at h
  refine stepE_ok (B := B) (f := f) hcl hg hF hC hf ha h1 h2 fun ρ' Φ' C' s' a' g1 g2 g3 g4 g5 g6 g7 => ⟨fun hne w hw => ?_, ih h.2 (hr.trans g1) (Hp.le_trans hl g2) g3 g4 g5 g6 _ g7⟩
  rcases h.1 with h3 | h3
  ·
   rw [isNil_ok hne] at h3; cases h3
  ·
   exact subT_ok h0 g5 (hr.trans g1) (Hp.le_trans hl g2) h3 hw
 | f o1 o2 t1 t2 ih1 ih2 =>
  intro σ H n tr ρ Φ C s h hr hl hg hF hC hf a ha
  unfold wayE at h
  obtain ⟨ha1, ha2⟩ := Bool.and_eq_true_iff.1 h
  clear h
  constructor
  ·
   split at ha1
   rotate_left
   ·
    cases ha1
   rename_i h1
   split at ha1
   rotate_left
   ·
    cases ha1
   rename_i σ1 H1 n1 h2
   simp only [Bool.and_eq_true] at ha1
   exact stepE_ok (B := B) (f := f) hcl hg hF hC hf ha h1 h2 fun ρ' Φ' C' s' a' g1 g2 g3 g4 g5 g6 g7 => ⟨fun w hw => subT_ok h0 g5 (hr.trans g1) (Hp.le_trans hl g2) ha1.1 hw, ih1 ha1.2 (hr.trans g1) (Hp.le_trans hl g2) g3 g4 g5 g6 _ g7⟩
  ·
   split at ha2
   rotate_left
   ·
    cases ha2
   rename_i h1
   split at ha2
   rotate_left
   ·
    cases ha2
   rename_i σ1 H1 n1 h2
   simp only [Bool.and_eq_true] at ha2
   exact stepE_ok (B := B) (f := f) hcl hg hF hC hf ha h1 h2 fun ρ' Φ' C' s' a' g1 g2 g3 g4 g5 g6 g7 => ⟨fun w hw => subT_ok h0 g5 (hr.trans g1) (Hp.le_trans hl g2) ha2.1 hw, ih2 ha2.2 (hr.trans g1) (Hp.le_trans hl g2) g3 g4 g5 g6 _ g7⟩
theorem endE_ok {ρ0 : En} {n0 : Nat} {r : Fm × T × Nat} {tr : Mk} (h : endE n0 r σ H n tr = true) (hf0 : Fr ρ0 n0) (hg0 : GOK gl ρ0) (hr : En.le ρ0 ρ) (hl : Hp.le Φ0 Φ) (hF : dnF ρ σ = some s) (hC : CR M.mc ρ Φ H C) (hf : Fr ρ n) : ∃ s' J', AtE M gl B ρ0 Φ0 r s' J' ∧ AllIn (fr f s) s' ∧ ∀ w, StP B Φ C w → J'.p w := by
 unfold endE at h
 obtain ⟨hn, h⟩ := Bool.and_eq_true_iff.1 h
 split at h
 rotate_left
 ·
  cases h
 rename_i σ1 H1 hlf
 unfold leafE at hlf
 obtain ⟨hc, hlf⟩ := bif_some hlf
 obtain ⟨H2, h1, h2⟩ := mS hlf
 simp only [Prod.mk.injEq] at h2
 obtain ⟨rfl, rfl⟩ := h2
 obtain ⟨hp, hm⟩ := Bool.and_eq_true_iff.1 hc
 obtain ⟨h3, h4⟩ := Bool.and_eq_true_iff.1 h
 obtain ⟨ρ', C', g1, g2, g3, g4, g5⟩ := ren_ok hp (nB hm) h1 hf0 hr hf hC
 obtain ⟨s', g6, g7⟩ := sameF_ok (f := f) ((g3 σ).trans hF) h3
 rw [nB hn] at g2
 rw [T.eq_ok h4] at g4
 exact ⟨s', St B Φ C', ⟨ρ', Φ, C', g1, hl, hg0.mono g1, g6, g4, g2, rfl⟩, g7, fun w hw => StP.perm hw g5⟩
theorem fregE_ok (hcl : ClOK M gl cl) (hm : P.follows .mixedOrders = true) {l : List Oper} {id : Nat} {r : Fm × T × Nat} [PanQ D Q NoPn] (h : fregE M gl cl N l σ H n = some r) (hg : GOK gl ρ) (hF : dnF ρ σ = some s) (hC : CR M.mc ρ Φ H C) (hf : Fr ρ n) (k : Goes M gl B ρ Φ r (fun s' J => ∀ f', Post N D Q .normal f' s' J)) : AW P N D (.region id l.toArray true) Q f s (St B Φ C) := by
 unfold fregE at h
 obtain ⟨hB, h⟩ := bif_some h
 obtain ⟨hs, h⟩ := bif_some h
 obtain ⟨a, h1, h⟩ := bS h
 obtain ⟨b, h2, h⟩ := bS h
 obtain ⟨hw, h⟩ := bif_some h
 obtain rfl := sJ h
 obtain ⟨C0, h0⟩ := restr_ok hC (l := dryE M gl N H (plan l).1 (pickOps l (plan l).2) σ) (t := .nil) (C0 := []) ⟨rfl, fun o cs hm => by cases hm⟩
 refine AW.drawT (J0 := St B Φ C0) (AtE M gl B ρ Φ (prune b.1 [], b.2, a.2.2.1)) _ hm hB (wayE_ok hcl h0 (fun σ H n tr ρ' Φ' C' s' f' hz hr hl _ hF hC hf' => endE_ok hz hf hg hr hl hF hC hf') hw (En.le_refl _) (Hp.le_refl _) hg hF hC hf) ?_
 rintro f' s' J' ⟨ρ', Φ', C', g1, g2, g3, g4, g5, g6, rfl⟩
 exact k ρ' Φ' C' s' g1 g2 g3 g4 g5 g6 f'
end
end Go.K.Ev
namespace Go.K.Ev
open Go Go.K Go.RowKit
abbrev Xl := List (Nat × Nat × S)
def dnX (ρ : En) : Xl → Option (List (Addr × Value))
 | [] => some []
 | a :: l => (ρ a.1).bind fun x => (dn ρ a.2.2).bind fun v => (dnX ρ l).map fun r => (x.1.add a.2.1, v) :: r
theorem dnX_mono {ρ τ : En} (h : En.le ρ τ) : ∀ {l : Xl} {X}, dnX ρ l = some X → dnX τ l = some X
 | [], _, e => e
 | a :: l, X, e => by
  simp only [dnX, bI, mI] at e ⊢
  obtain ⟨x, h1, v, h2, r, h3, h4⟩ := e
  exact ⟨x, h _ _ h1, v, dn_mono h h2, r, dnX_mono h h3, h4⟩
def lkX : Xl → Nat → Nat → Option S
 | [], _, _ => none
 | a :: l, o, k => bif Nat.beq a.1 o && Nat.beq a.2.1 k then some a.2.2 else lkX l o k
theorem lkX_ok {ρ : En} : ∀ {l : Xl} {X} {o k : Nat} {s : S}, dnX ρ l = some X → lkX l o k = some s → ∃ x v, ρ o = some x ∧ dn ρ s = some v ∧ (x.1.add k, v) ∈ X
 | a :: l, X, o, k, s, e, h => by
  simp only [dnX, bI, mI] at e
  obtain ⟨x, h1, v, h2, r, h3, rfl⟩ := e
  unfold lkX at h
  cases hb : (Nat.beq a.1 o && Nat.beq a.2.1 k) with
  | true =>
   rw [hb] at h
   simp only [cond_true, Option.some.injEq] at h
   subst h
   obtain ⟨hb1, hb2⟩ := Bool.and_eq_true_iff.1 hb
   obtain rfl := nB hb1
   obtain rfl := nB hb2
   exact ⟨x, v, h1, h2, List.mem_cons_self ..⟩
  | false =>
   rw [hb] at h
   simp only [cond_false] at h
   obtain ⟨x', v', g1, g2, g3⟩ := lkX_ok h3 h
   exact ⟨x', v', g1, g2, List.mem_cons_of_mem _ g3⟩
def holdX (H : T) (l : Xl) : Bool := l.all fun a => match cellsAt H a.1 with
 | some cs => (match cs[a.2.1]? with
  | some s => sEq a.2.2 s
  | none => false)
 | none => false
def JX (B : Bs) (Φ : Hp) (C : List Chunk) (X : List (Addr × Value)) : Cls := ⟨fun w => StP B Φ C w ∧ ∀ p ∈ X, w.cell? p.1 = some p.2, fun w w' h hb => ⟨h.1.ext hb, fun p hp => by
 have h2 := h.2 p hp
 unfold World.cell? at h2 ⊢
 have hlt : p.1.block < w.heap.size := by
  cases hx : w.heap[p.1.block]? with
  | none => simp [hx] at h2
  | some o => exact (Array.getElem?_eq_some_iff.1 hx).1
 have hbk := hb.block p.1.block hlt
 have e : w'.heap[p.1.block]? = w.heap[p.1.block]? := hbk
 rw [e]; exact h2⟩⟩
theorem holdX_ok {mc : Mc} {B : Bs} {ρ τ : En} {Ψ : Hp} {H : T} {C : List Chunk} (h : CR mc τ Ψ H C) (hr : En.le ρ τ) {w : World} (hw : StP B Ψ C w) : ∀ {l : Xl} {X}, dnX ρ l = some X → holdX H l = true → ∀ p ∈ X, w.cell? p.1 = some p.2
 | [], X, e, _, p, hp => by obtain rfl := sJ e; cases hp
 | a :: l, X, e, hh, p, hp => by
  simp only [dnX, bI, mI] at e
  obtain ⟨x, h1, v, h2, r, h3, rfl⟩ := e
  unfold holdX at hh
  rw [List.all_cons, Bool.and_eq_true] at hh
  rcases List.mem_cons.1 hp with rfl | hp
  ·
   have h4 := hh.1
   split at h4
   rotate_left
   ·
    cases h4
   rename_i cs hcs
   split at h4
   rotate_left
   ·
    cases h4
   rename_i s hs
   have h5 := sEq_ok h4
   obtain ⟨a', cap, xs, g1, g2, g3⟩ := cells_ok (B := B) h hcs
   have g4 := hr _ _ h1
   rw [g1] at g4
   obtain rfl := sJ g4
   obtain ⟨u, g5, g6⟩ := dnL_get g2 hs
   have g7 := dn_mono hr h2
   rw [h5, g5] at g7
   obtain rfl := sJ g7
   exact g3 _ _ g6 w hw
  ·
   exact holdX_ok h hr hw h3 hh.2 p hp
def opXQ {P : Program} (M : Mp P) (gl : Nat → Option Nat) (σ : Fm) (H : T) (L : Xl) (op : Op) : Option V := match op with
 | .load t a => match ldT P t with
  | some none => (evO gl σ a).bind fun a => a.ptr?.bind fun p => (lkX L p.1 p.2).map fun s => .e (.one s)
  | _ => opQ M gl σ H op
 | _ => opQ M gl σ H op
def xdry {P : Program} (M : Mp P) (gl : Nat → Option Nat) (N : Nat) (H : T) : List Tg → List Oper → Fm → List Nat × Xl
 | .q :: tg, o :: r, σ => match opQ M gl σ H o.op with
  | some v => let z := xdry M gl N H tg r ((putF N σ o.dst (some v)).getD σ)
   match o.op with
   | .load t a => (match (evO gl σ a).bind V.ptr? with
    | some p => (match ldT P t, v with
     | some none, .e (.one s) => (z.1, (p.1, p.2, s) :: z.2)
     | _, _ => (p.1 :: z.1, z.2))
    | none => z)
   | .lookup _ m _ _ => (match evO gl σ m with
    | some (.e (.one (.mp k))) => (k :: z.1, z.2)
    | _ => z)
   | _ => z
  | none => xdry M gl N H tg r ((putF N σ o.dst (some (.k undef))).getD σ)
 | _ :: tg, _ :: r, σ => xdry M gl N H tg r σ
 | _, _, _ => ([], [])
def drwX {P : Program} (M : Mp P) (gl : Nat → Option Nat) (cl : Cl) (N : Nat) (ops : Array Oper) (H0 : T) (L : Xl) : List Tg → List Oper → Fm → T → Nat → Option (Fm × T × Nat)
 | [], [], σ, H, n => some (σ, H, n)
 | .q :: tg, o :: r, σ, H, n => (grdE ops σ o.guard).bind fun g => (bif g then opXQ M gl σ H0 L o.op else some (.k undef)).bind fun v => (putF N σ o.dst (some v)).bind fun σ => drwX M gl cl N ops H0 L tg r σ H n
 | .e :: tg, o :: r, σ, H, n => (grdE ops σ o.guard).bind fun g => bif g then
   (opE M gl cl σ H n o.op).bind fun a => (putF N σ o.dst a.1).bind fun σ => bif r.isEmpty || (subT H0 a.2.1 && holdX a.2.1 L) then drwX M gl cl N ops H0 L tg r σ a.2.1 a.2.2 else none
  else (putF N σ o.dst (some (.k undef))).bind fun σ => drwX M gl cl N ops H0 L tg r σ H n
 | _, _, _, _, _ => none
def xregE {P : Program} (M : Mp P) (gl : Nat → Option Nat) (cl : Cl) (N : Nat) (l : List Oper) (σ : Fm) (H : T) (n : Nat) : Option (Fm × T × Nat) :=
 let p := plan l
 let os := pickOps l p.2
 bif lexFB l p.1 p.2 then
  let z := xdry M gl N H p.1 os σ
  let H0 := restr H z.1 .nil
  bif subT H0 H && holdX H z.2 then drwX M gl cl N l.toArray H0 z.2 p.1 os σ H n else none
 else none
section
variable {P : Program} {M : Mp P} {gl : Nat → Option Nat} {ρ : En} {σ : Fm} {s : List (Nat × Value)} {f : Nat → Value} {H H0 : T} {C C0 : List Chunk} {Φ Φ0 : Hp} {B : Bs} {n N : Nat} {cl : Cl} {ops : Array Oper} {Q : Exit → Act → World → Prop} {D : List Deferred} {L : Xl} {X : List (Addr × Value)}
theorem opXQ_ok (hg : GOK gl ρ) (hF : dnF ρ σ = some s) (hC : CR M.mc ρ Φ H C) (hX : dnX ρ L = some X) {op : Op} {v : V} {dst : Option Nat} {ty : TypeId} {pos : String} {af : Array Edge} {g : Option (Nat × Bool)} (h : opXQ M gl σ H L op = some v) : ∃ r, dnV ρ v = some r ∧ Qt P (JX B Φ C X) f s ⟨dst, op, ty, pos, af, g⟩ r := by
 have hq : opQ M gl σ H op = some v → ∃ r, dnV ρ v = some r ∧ Qt P (JX B Φ C X) f s ⟨dst, op, ty, pos, af, g⟩ r := fun h => by
  obtain ⟨r, h1, h2⟩ := opQ_ok (B := B) (f := f) (dst := dst) (ty := ty) (pos := pos) (af := af) (g := g) hg hF hC h
  exact ⟨r, h1, fun w hw => h2 w hw.1⟩
 unfold opXQ at h
 split at h
 ·
  rename_i t a
  split at h
  ·
   rename_i ht
   obtain ⟨a', h1, h⟩ := bS h
   obtain ⟨p, h2, h⟩ := bS h
   obtain ⟨s', h3, rfl⟩ := mS h
   obtain ⟨ad, c, h4, h5⟩ := V.ptr_ok h2 (evO_ok (f := f) hg hF h1)
   obtain ⟨x, u, h6, h7, h8⟩ := lkX_ok hX h3
   rw [h4] at h6
   obtain rfl := sJ h6
   obtain ⟨d, h9, h10⟩ := bS ht
   have h11 : isAggD d = false := by
    cases hd : isAggD d with
    | false => rfl
    | true =>
     rw [hd, cond_true] at h10
     obtain ⟨_, _, h12⟩ := mS h10
     cases h12
   exact ⟨u, h7, q_load h5 h9 h11 fun w hw => hw.2 _ h8⟩
  ·
   exact hq h
 ·
  exact hq h
theorem drwX_ok (hcl : ClOK M gl cl) {ρ0 : En} (h0 : CR M.mc ρ0 Φ0 H0 C0) (hX : dnX ρ0 L = some X) : ∀ {tg : List Tg} {l : List Oper} {σ : Fm} {H : T} {n : Nat} {r : Fm × T × Nat} {ρ : En} {Φ : Hp} {C : List Chunk} {s : List (Nat × Value)}, drwX M gl cl N ops H0 L tg l σ H n = some r → En.le ρ0 ρ → Hp.le Φ0 Φ → (l ≠ [] → (subT H0 H && holdX H L) = true) → GOK gl ρ → dnF ρ σ = some s → CR M.mc ρ Φ H C → Fr ρ n →
  Goes M gl B ρ Φ r (fun s' J => Post N D Q .normal f s' J) → DW P NoPn N D ops (JX B Φ0 C0 X) Q tg l f s (St B Φ C)
 | [], [], σ, H, n, r, ρ, Φ, C, s, h, hr, hl, hs, hg, hF, hC, hf, k => by
  obtain rfl := sJ h
  exact DW.nil (k ρ Φ C s (En.le_refl _) (Hp.le_refl _) hg hF hC hf)
 | .q :: tg, ⟨dst, op, ty, pos, af, g⟩ :: l, σ, H, n, r, ρ, Φ, C, s, h, hr, hl, hs, hg, hF, hC, hf, k => fun a ha => by
  unfold drwX at h
  obtain ⟨gb, h1, k1⟩ := bS h
  obtain ⟨v, h2, k2⟩ := bS k1
  obtain ⟨σ1, h3, k3⟩ := bS k2
  clear h k1 k2
  have hwant := grdE_ok (N := N) (D := D) (f := f) hF h1 ha rfl
  have hsub := hs (by simp)
  obtain ⟨hs1, hs2⟩ := Bool.and_eq_true_iff.1 hsub
  refine ⟨fun w hw => ⟨subT_ok h0 hC hr hl hs1 hw, holdX_ok hC hr hw hX hs2⟩, ?_⟩
  cases gb with
  | true =>
   obtain ⟨u, h4, h5⟩ := opXQ_ok (B := B) (f := f) (dst := dst) (ty := ty) (pos := pos) (af := af) (g := g) hg hF (h0.mono hr (Hp.le_refl _)) (dnX_mono hr hX) (show opXQ M gl σ H0 L op = some v from h2)
   obtain ⟨h10, h11⟩ := putF_ok (u := u) hF h3 (fun x e => by obtain rfl := sJ e; exact h4)
   exact ⟨u, .inl ⟨hwant, fun w hw => by rw [ha.eval]; exact h5 w hw⟩, drwX_ok hcl h0 hX k3 hr hl (fun _ => hsub) hg h11 hC hf k _ (rel_put ha h10 u)⟩
  | false =>
   obtain rfl := sJ h2
   obtain ⟨h10, h11⟩ := putF_ok (u := undef) hF h3 (fun x e => by obtain rfl := sJ e; rfl)
   exact ⟨undef, .inr ⟨hwant, rfl⟩, drwX_ok hcl h0 hX k3 hr hl (fun _ => hsub) hg h11 hC hf k _ (rel_put ha h10 undef)⟩
 | .e :: tg, ⟨dst, op, ty, pos, af, g⟩ :: l, σ, H, n, r, ρ, Φ, C, s, h, hr, hl, hs, hg, hF, hC, hf, k => fun a ha => by
  unfold drwX at h
  obtain ⟨gb, h1, h⟩ := bS h
  have hwant := grdE_ok (N := N) (D := D) (f := f) hF h1 ha rfl
  show K.opX P NoPn ops _ _ a _
  unfold K.opX
  cases gb with
  | true =>
   simp only [cond_true] at h
   obtain ⟨⟨v, H1, n1⟩, h2, h⟩ := bS h
   obtain ⟨σ1, h3, h⟩ := bS h
   rw [if_pos hwant]
   intro w hw
   rw [ha.eval]
   refine effX_mono (fun u w' hA => ?_) (opE_ok (B := B) (f := f) (dst := dst) (ty := ty) (pos := pos) (af := af) (g := g) hcl hg hF hC hf h2 w hw)
   obtain ⟨ρ', C', Φ', h4, h5, h6, h7, h8, h9⟩ := hA
   obtain ⟨h10, h11⟩ := putF_ok (dnF_mono h4 hF) h3 h6
   have hb : (l.isEmpty || (subT H0 H1 && holdX H1 L)) = true := by
    cases hh : (l.isEmpty || (subT H0 H1 && holdX H1 L)) with
    | true => rfl
    | false => simp only [hh, cond_false] at h; cases h
   simp only [hb, cond_true] at h
   have hsub : l ≠ [] → (subT H0 H1 && holdX H1 L) = true := fun hne => by
    cases l with
    | nil => exact absurd rfl hne
    | cons _ _ => simpa using hb
   exact ⟨St B Φ' C', h9, fun hne w1 hw1 => by
    obtain ⟨hs1, hs2⟩ := Bool.and_eq_true_iff.1 (hsub hne)
    exact ⟨subT_ok h0 h7 (hr.trans h4) (Hp.le_trans hl h5) hs1 hw1, holdX_ok h7 (hr.trans h4) hw1 hX hs2⟩, drwX_ok hcl h0 hX h (hr.trans h4) (Hp.le_trans hl h5) hsub (hg.mono h4) h11 h7 h8 (k.step h4 h5) _ (rel_put ha h10 u)⟩
  | false =>
   simp only [cond_false] at h
   obtain ⟨σ1, h3, h⟩ := bS h
   rw [if_neg (by rw [hwant]; simp)]
   obtain ⟨h10, h11⟩ := putF_ok (u := undef) hF h3 (fun x e => by obtain rfl := sJ e; rfl)
   have hsub := hs (by simp)
   exact ⟨fun _ w1 hw1 => by
    obtain ⟨hs1, hs2⟩ := Bool.and_eq_true_iff.1 hsub
    exact ⟨subT_ok h0 hC hr hl hs1 hw1, holdX_ok hC hr hw1 hX hs2⟩, drwX_ok hcl h0 hX h hr hl (fun _ => hsub) hg h11 hC hf k _ (rel_put ha h10 undef)⟩
 | .p :: tg, _, _, _, _, _, _, _, _, _, h, _, _, _, _, _, _, _, _ => by cases h
 | [], _ :: _, _, _, _, _, _, _, _, _, h, _, _, _, _, _, _, _, _ => by cases h
 | .q :: _, [], _, _, _, _, _, _, _, _, h, _, _, _, _, _, _, _, _ => by cases h
 | .e :: _, [], _, _, _, _, _, _, _, _, h, _, _, _, _, _, _, _, _ => by cases h
theorem holdX_dn (hC : CR M.mc ρ Φ H C) : ∀ {l : Xl}, holdX H l = true → ∃ X, dnX ρ l = some X
 | [], _ => ⟨[], rfl⟩
 | a :: l, hh => by
  unfold holdX at hh
  rw [List.all_cons, Bool.and_eq_true] at hh
  have h4 := hh.1
  split at h4
  rotate_left
  ·
   cases h4
  rename_i cs hcs
  split at h4
  rotate_left
  ·
   cases h4
  rename_i s hs
  have h5 := sEq_ok h4
  obtain ⟨a', cap, xs, g1, g2, g3⟩ := cells_ok (B := ⟨default, Φ, []⟩) hC hcs
  obtain ⟨u, g5, _⟩ := dnL_get g2 hs
  obtain ⟨X, hX⟩ := holdX_dn hC (l := l) hh.2
  exact ⟨_, by simp only [dnX, g1, h5, g5, hX, Option.bind_some, Option.map_some]; rfl⟩
theorem xregE_ok (hcl : ClOK M gl cl) (hm : P.follows .mixedOrders = true) {l : List Oper} {id : Nat} {r : Fm × T × Nat} [PanQ D Q NoPn] (h : xregE M gl cl N l σ H n = some r) (hg : GOK gl ρ) (hF : dnF ρ σ = some s) (hC : CR M.mc ρ Φ H C) (hf : Fr ρ n) (k : Goes M gl B ρ Φ r (fun s' J => Post N D Q .normal f s' J)) : AW P N D (.region id l.toArray true) Q f s (St B Φ C) := by
 unfold xregE at h
 simp only at h
 cases hB : lexFB l (plan l).1 (plan l).2 with
 | false => rw [hB] at h; cases h
 | true =>
  rw [hB] at h
  simp only [cond_true] at h
  generalize hz : xdry M gl N H (plan l).1 (pickOps l (plan l).2) σ = z at h
  obtain ⟨C0, h0⟩ := restr_ok hC (l := z.1) (t := .nil) (C0 := []) ⟨rfl, fun o cs hm => by cases hm⟩
  cases hs : (subT (restr H z.1 .nil) H && holdX H z.2) with
  | false => rw [hs] at h; cases h
  | true =>
   rw [hs] at h
   obtain ⟨X, hX⟩ := holdX_dn hC (Bool.and_eq_true_iff.1 hs).2
   exact AW.drawZ (J0 := JX B Φ C0 X) _ _ hm (lexFB_ok hB) (drwX_ok hcl h0 hX h (En.le_refl _) (Hp.le_refl _) (fun _ => hs) hg hF hC hf k)
end
end Go.K.Ev
