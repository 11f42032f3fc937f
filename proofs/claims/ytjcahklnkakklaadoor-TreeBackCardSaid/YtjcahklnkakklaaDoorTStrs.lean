/- Rows of strings, a string's bytes appended to a row of bytes, what lies below a number of blocks. Conditions: those of each theorem. -/
import Derived.Test.YtjcahklnkakklaaDoorTAuto
import Derived.Test.YtjcahklnkakklaaDoorTCore13
import Derived.Test.YtjcahklnkakklaaDoorTCore5
import Derived.Lib.AppendStr
import Derived.Lib.Builder
import Derived.Lib.UnsafeStr
import Derived.Lib.Join
namespace Go.K
open Go Go.RowKit
abbrev sCells (l : List (List UInt8)) : List Value := l.map fun x => Value.string (bs x)
theorem made_str {n c m : Nat} (h : n ≤ c) (hm : m = n * 1 := by rfl) : (madeCells (Value.string ⟨#[]⟩).cells (c * 1)).toList.take m = sCells (List.replicate n []) := by
  subst hm
  show (madeCells #[Value.string ⟨#[]⟩] (c * 1)).toList.take (n * 1) = _
  rw [madeCells_one]; simp [List.take_replicate, Nat.min_eq_left h, bs]
theorem splice_str {xs : List (List UInt8)} {k : Nat} {u : List UInt8} (h : k < xs.length) : splice (sCells xs) (k * 1) (Value.string (bs u)).cells.toList = sCells (xs.set k u) := by
  show splice _ _ [Value.string (bs u)] = _
  rw [splice_one (by simpa using h), sCells, sCells, List.map_set]
theorem append_str_at {P : Program} (w : World) (t u ty e : TypeId) (i : TypeInfo) (ht : P.underlying t = some (.slice e)) (hu : P.underlying u = some .string) (hi : P.info? e = some i) (hz : i.zero = some (.int .u8 0)) (hsize : i.size = 1) (hby : i.bytes = 1)
    (v : Value) (n : Nat) (xs : List Value) (hown : w.ownsRow 0 e 1 v n xs) (s : ByteArray) (h63 : n + s.size ≤ maxLen) (hbytes : n + s.size ≤ 140737488355328) {v' : Value} {w' : World} (hr : (Builtin.append_ #[t, u] ty #[v, .string s]).run P w = .ok v' w') :
    v'.ownBlock = v.ownBlock ∨ v'.ownBlock = some w.heap.size := by
  have hxl : xs.length = n := by simpa using hown.1
  have hml : maxLen = 9223372036854775807 := rfl
  rcases hown.2 with ⟨rfl, rfl⟩ | ⟨g, cap, cur, rfl, hbg, hg, hnc, hcm, hcs, htake⟩
  · by_cases hm : s.size = 0
    · left
      have hf := Lib.run_firstCells_string (P := P) w 1 s
      rw [hm] at hf
      simp [Builtin.append_, run_underlying ht, run_underlying hu, sizeOf, typeInfo, hi, hsize, Builtin.lenOf, hm, hf] at hr
      rw [← hr.1]
    · right
      have h := run_append_nil_string (P := P) w t u ty e i (.int .u8 0) ht hu hi hz s (by omega) (by omega) (by rw [hby]; omega)
      rw [h] at hr
      simp only [Result.ok.injEq] at hr
      rw [← hr.1]; rfl
  · by_cases hroom : n + s.size ≤ cap
    · left
      have hcs' : cur.size = cap := by simpa using hcs
      have h := Lib.run_append_room_string (P := P) w t u ty e i ht hu hi hsize g n cap cur hg s hroom (by omega)
      rw [h] at hr
      simp only [Result.ok.injEq] at hr
      rw [← hr.1]; rfl
    · right
      have holds : ∀ j u, xs[j]? = some u → w.cell? ((⟨g, 0, none⟩ : Addr).add j) = some u := hown.cells (g := g) rfl
      have h := Lib.run_append_grow_string (P := P) w t u ty e i (.int .u8 0) ht hu hi hz ⟨g, 0, none⟩ n cap xs (by rw [hsize]; simpa using hxl) holds s (by omega) (by omega) (by rw [hby]; exact growslice_fits (by omega) (by omega))
      rw [h] at hr
      simp only [Result.ok.injEq] at hr
      rw [← hr.1]; rfl
/-- a string's bytes are appended to a row of bytes -/
theorem e_appendStr {P : Program} {Pn : List PanicEntry → World → Prop} {B : Bs} {Φ : Hp} {C : List Chunk} {f : Nat → Value} {s : List (Nat × Value)} {dst : Option Nat} {ty : TypeId} {pos : String} {af : Array Edge} {g : Option (Nat × Bool)}
    {t u e : TypeId} {x y : Operand} {v : Value} {n : Nat} {xs r : List UInt8} (i : Nat) (hi : C[i]? = some (.row v e 1 n (bCells xs))) (hx : ev (fr f s) x = v) (hy : ev (fr f s) y = .string (bs r))
    (hT : P.underlying t = some (.slice e)) (hU : P.underlying u = some .string) (hinfo : (P.info? e).map (fun i => (i.zero, i.size, i.bytes)) = some (some (.int .u8 0), 1, 1)) (hlen : n + r.length ≤ 140737488355328)
    {C' : {v' : Value // IsSl v' (n + r.length)} → List Chunk} (hC' : ∀ v' : {v' : Value // IsSl v' (n + r.length)}, C.set i (.row v'.1 e 1 (n + r.length) (bCells (xs ++ r))) = C' v') :
    ∀ w, (St B Φ C).p w → effX P Pn (fun z w' => ∃ v' : {v' : Value // IsSl v' (n + r.length)}, z = v'.1 ∧ (St B Φ (C' v')).p w')
      ((execOp (ev (fr f s)) ⟨dst, .call { callee := .builtin .append, args := #[x, y], argTypes := #[t, u] }, ty, pos, af, g⟩).run P w) := fun w hw => by
  obtain ⟨ti, hti, hz, hs, hby⟩ := info_parts hinfo
  have hml : maxLen = 9223372036854775807 := rfl
  have hbsz : (bs r).size = r.length := bs_size r
  have hown : w.ownsRow 0 e 1 v n (bCells xs) := RowS.owns (hw.sat _ (List.mem_of_getElem? hi))
  obtain ⟨v', w', hrun, how, hgr, _⟩ := Lib.run_append_own_string (P := P) w 0 t u ty e ti hT hU hti hz hs hby v n (bCells xs) hown (bs r) (by omega) (by omega) (Nat.zero_le _)
  have hat := append_str_at w t u ty e ti hT hU hti hz hs hby v n (bCells xs) hown (bs r) (by omega) (by omega) hrun
  have hcells : bCells xs ++ Lib.strCells (bs r) = bCells (xs ++ r) := by
    show (xs.map _) ++ (r.toArray.toList.map _) = (xs ++ r).map _
    rw [List.map_append]
  rw [hbsz, hcells] at how
  have hrs : RowS (hp w') v' e 1 (n + r.length) (bCells (xs ++ r)) := RowS.of_owns how
  refine effX_val (v := v') (w' := w') ?_ ⟨⟨v', hrs.isSl⟩, rfl, by rw [← hC']; exact StP.grown hw hi hgr hrs hat (by simp [Kd])⟩
  simp only [execOp, resolve, invoke, builtin, Sem.run_bind, Sem.run_pure, Result.andThen_ok, List.map_toArray, List.map_cons, List.map_nil, hx, hy, hrun]
/-- the first cell of an owned block is written -/
theorem StP.set0 {B : Bs} {Φ : Hp} {C : List Chunk} {w : World} {b : Nat} {T : TypeId} {p q : Value} {r : List Value} (h : StP B Φ (.blk b T (p :: r) :: C) w) : StP B Φ (.blk b T (q :: r) :: C) (w.setCell ⟨b, 0, none⟩ q) := by
  have hb : w.heap[b]? = some (.cells (p :: r).toArray T (0, 0)) := h.sat _ (List.mem_cons_self ..)
  rw [setCell_wset hb q]
  exact StP.wset (i := 0) (b := b) (c' := .blk b T (q :: r)) h rfl rfl rfl (by
    show (Go.K.wset w b _).heap[b]? = _
    unfold Go.K.wset
    rw [Array.getElem?_setIfInBounds, if_pos rfl, if_pos (lt_of_some hb)]
    simp)
/-- only what lies below the base stays: nothing owned any more -/
theorem StP.low {B : Bs} {Φ : Hp} {C : List Chunk} {w w' : World} (h : StP B Φ C w) (hΦ : ∀ b o, Φ b = some o → b < B.w0.heap.size) (hb : Below B.w0.heap.size w w') (hE : B.E = []) : StP B Φ [] w' where
  os := hb.os.trans h.os
  tape := hb.tape.trans h.tape
  output := hb.output.trans h.output
  size := Nat.le_trans h.size hb.size
  drawn := by simp [Kd]
  old := fun b hlt hne => (hb.block b hlt).trans (h.old b hlt hne)
  phi := fun b o e => (hb.block b (hΦ b o e)).trans (h.phi b o e)
  orig := h.orig
  sat := fun c hc => by cases hc
  sep := List.Pairwise.nil
  away := fun b hb => by cases hb
/-- the block and the row of a builder -/
theorem StP.bld {B : Bs} {Φ : Hp} {C : List Chunk} {w : World} {b : Nat} {T e : TypeId} {p v : Value} {l : List UInt8} {n : Nat} (h : StP B Φ (.blk b T [p, v] :: .row v e 1 n (bCells l) :: C) w) (hn : n = l.length) (hE : B.E = [])
    (hpp : p = .pointer none ∨ p = .pointer (some ⟨b, 0, none⟩)) : Lib.IsBuilder T e B.w0.heap.size b (Lib.byteCells l) w := by
  subst hn
  have hb : w.heap[b]? = some (.cells #[p, v] T (0, 0)) := h.sat _ (List.mem_cons_self ..)
  have hr : RowS (Go.K.hp w) v e 1 l.length (bCells l) := h.sat _ (List.mem_cons_of_mem _ (List.mem_cons_self ..))
  have hbl : B.w0.heap.size ≤ b := by
    have := (h.away b (by simp [Chunk.blk])).2
    rw [hE] at this; simpa using this
  have hne : v.ownBlock ≠ some b := fun he => by
    have := (List.pairwise_cons.1 h.sep).1 (.row v e 1 l.length (bCells l)) (List.mem_cons_self ..) b (by simp [Chunk.blk])
    apply this
    show b ∈ blks v
    cases v with
    | slice a n c => cases a with
      | none => simp [Value.ownBlock] at he
      | some a => simp [Value.ownBlock] at he; subst he; simp [blks]
    | _ => simp [Value.ownBlock] at he
  have hown : w.ownsRow B.w0.heap.size e 1 v (Lib.byteCells l).length (Lib.byteCells l) := by
    rw [Lib.byteCells_length]
    refine ⟨hr.1, hr.2.imp id fun ⟨g, cap, cur, h1, h2, h3⟩ => ⟨g, cap, cur, h1, ?_, h2, h3⟩⟩
    have := (h.away g (by subst h1; simp [Chunk.row, blks])).2
    rw [hE] at this; simpa using this
  have ha : Lib.BuilderAt T e B.w0.heap.size b p (Lib.byteCells l) w := ⟨hbl, v, hb, hown, hne⟩
  rcases hpp with rfl | rfl
  · exact .inl ha
  · exact .inr ha
end Go.K
