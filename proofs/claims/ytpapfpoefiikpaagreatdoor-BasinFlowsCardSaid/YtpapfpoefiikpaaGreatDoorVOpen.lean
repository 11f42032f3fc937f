/- Lemmas. Conditions: those of each theorem. -/
import Derived.Test.YtpapfpoefiikpaaGreatDoorProg
import Derived.Test.YtpapfpoefiikpaaGreatDoorVTop
import Derived.Test.YtpapfpoefiikpaaGreatDoorRows
set_option maxRecDepth 8000
set_option maxHeartbeats 16000000
namespace Bt
structure Point where
  X : Int
  Y : Int
  deriving Inhabited, DecidableEq
structure Cell where
  Index : Int
  Area : Int
  deriving Inhabited, DecidableEq
structure Place where
  Name : ByteArray
  Kind : Int
  Office : Int
  Cap : Int
  Level : List Point
  Start : List Int
  Num : Int
  Den : Int
  Down : Int
  Delay : Int
  Floor : Int
  Rain : List Cell
  deriving Inhabited, DecidableEq
structure Band where
  Lo : List Point
  Hi : List Point
  deriving Inhabited, DecidableEq
structure Link where
  Name : ByteArray
  Kind : Int
  From : Int
  To : Int
  Rate : List Point
  Band : Band
  Positions : Int
  Speed : Int
  Leak : Int
  Crest : Int
  Num : Int
  Den : Int
  Prime : Int
  Break : Int
  BackNum : Int
  BackDen : Int
  Delay : Int
  deriving Inhabited, DecidableEq
structure Town where
  Name : ByteArray
  Place : Int
  Flood : Int
  Lead : Int
  People : Int
  Watch : Int
  Quorum : Int
  deriving Inhabited, DecidableEq
structure Gauge where
  Name : ByteArray
  Kind : Int
  Target : Int
  Err : Int
  Drift : Int
  deriving Inhabited, DecidableEq
structure Road where
  Name : ByteArray
  From : Int
  To : Int
  Hours : Int
  Flow : Int
  By : Int
  Limit : Int
  deriving Inhabited, DecidableEq
structure Shelter where
  Name : ByteArray
  Room : Int
  deriving Inhabited, DecidableEq
structure Basin where
  Name : ByteArray
  Owners : List ByteArray
  Cells : Int
  Places : List Place
  Links : List Link
  Towns : List Town
  Gauges : List Gauge
  Roads : List Road
  Shelters : List Shelter
  Room : List Int
  Err : Int
  deriving Inhabited, DecidableEq
structure Arc where
  From : Int
  To : Int
  deriving Inhabited, DecidableEq
end Bt
namespace Go.Proofs.YtpapfpoefiikpaaGreatDoor
open Go Go.K Go.RowKit
instance : Rep Bt.Point where
  sz := 2
  bytes := 16
  rep := fun _ x cs => cs = [.int .i64 x.X, .int .i64 x.Y] ∧ (I64 x.X ∧ I64 x.Y)
  len := fun h => by rw [h.1]; rfl
  mono := fun _ h => h
  one := fun h u hu => by
    rw [h.1] at hu
    simp only [List.mem_cons, List.not_mem_nil, or_false] at hu
    rcases hu with rfl | rfl <;> rfl
instance : RepE Bt.Point where
  cells := fun x => [.int .i64 x.X, .int .i64 x.Y]
  wf := fun x => I64 x.X ∧ I64 x.Y
  iff := Iff.rfl
theorem even75 : EvenE Bt.Point := fun _ => rfl
instance : Rep Bt.Cell where
  sz := 2
  bytes := 16
  rep := fun _ x cs => cs = [.int .i64 x.Index, .int .i64 x.Area] ∧ (I64 x.Index ∧ I64 x.Area)
  len := fun h => by rw [h.1]; rfl
  mono := fun _ h => h
  one := fun h u hu => by
    rw [h.1] at hu
    simp only [List.mem_cons, List.not_mem_nil, or_false] at hu
    rcases hu with rfl | rfl <;> rfl
instance : RepE Bt.Cell where
  cells := fun x => [.int .i64 x.Index, .int .i64 x.Area]
  wf := fun x => I64 x.Index ∧ I64 x.Area
  iff := Iff.rfl
theorem even138 : EvenE Bt.Cell := fun _ => rfl
instance : Rep Bt.Place where
  sz := 12
  bytes := 152
  rep := fun Φ x cs => ∃ v4 v5 v11, cs = [.string x.Name, .int .i64 x.Kind, .int .i64 x.Office, .int .i64 x.Cap, v4, v5, .int .i64 x.Num, .int .i64 x.Den, .int .i64 x.Down, .int .i64 x.Delay, .int .i64 x.Floor, v11] ∧ (x.Name.size ≤ maxLen ∧ I64 x.Kind ∧ I64 x.Office ∧ I64 x.Cap ∧ I64 x.Num ∧ I64 x.Den ∧ I64 x.Down ∧ I64 x.Delay ∧ I64 x.Floor) ∧ RepSl Φ x.Level v4 ∧ RepSl Φ x.Start v5 ∧ RepSl Φ x.Rain v11
  len := fun ⟨v4, v5, v11, h, hw, h4, h5, h11⟩ => by rw [h]; rfl
  mono := fun hl ⟨v4, v5, v11, h, hw, h4, h5, h11⟩ => ⟨v4, v5, v11, h, hw, h4.mono hl, h5.mono hl, h11.mono hl⟩
  one := fun ⟨v4, v5, v11, h, hw, h4, h5, h11⟩ u hu => by
    rw [h] at hu
    simp only [List.mem_cons, List.not_mem_nil, or_false] at hu
    rcases hu with rfl | rfl | rfl | rfl | rfl | rfl | rfl | rfl | rfl | rfl | rfl | rfl <;> first | rfl | (exact RepSl.oneCell (by assumption))
theorem leaf58_2 {Φ : Hp} {x : Bt.Place} {cs : List Value} (h : Rep.rep Φ x cs) : cs[2]? = some (.int .i64 x.Office) := by obtain ⟨v4, v5, v11, h, hw, h4, h5, h11⟩ := h; rw [h]; rfl
instance : Rep Bt.Band where
  sz := 2
  bytes := 48
  rep := fun Φ x cs => ∃ v0 v1, cs = [v0, v1] ∧ (True) ∧ RepSl Φ x.Lo v0 ∧ RepSl Φ x.Hi v1
  len := fun ⟨v0, v1, h, hw, h0, h1⟩ => by rw [h]; rfl
  mono := fun hl ⟨v0, v1, h, hw, h0, h1⟩ => ⟨v0, v1, h, hw, h0.mono hl, h1.mono hl⟩
  one := fun ⟨v0, v1, h, hw, h0, h1⟩ u hu => by
    rw [h] at hu
    simp only [List.mem_cons, List.not_mem_nil, or_false] at hu
    rcases hu with rfl | rfl <;> first | rfl | (exact RepSl.oneCell (by assumption))
instance : Rep Bt.Link where
  sz := 18
  bytes := 200
  rep := fun Φ x cs => ∃ v4 v5 v6, cs = [.string x.Name, .int .i64 x.Kind, .int .i64 x.From, .int .i64 x.To, v4, v5, v6, .int .i64 x.Positions, .int .i64 x.Speed, .int .i64 x.Leak, .int .i64 x.Crest, .int .i64 x.Num, .int .i64 x.Den, .int .i64 x.Prime, .int .i64 x.Break, .int .i64 x.BackNum, .int .i64 x.BackDen, .int .i64 x.Delay] ∧ (x.Name.size ≤ maxLen ∧ I64 x.Kind ∧ I64 x.From ∧ I64 x.To ∧ I64 x.Positions ∧ I64 x.Speed ∧ I64 x.Leak ∧ I64 x.Crest ∧ I64 x.Num ∧ I64 x.Den ∧ I64 x.Prime ∧ I64 x.Break ∧ I64 x.BackNum ∧ I64 x.BackDen ∧ I64 x.Delay) ∧ RepSl Φ x.Rate v4 ∧ RepSl Φ x.Band.Lo v5 ∧ RepSl Φ x.Band.Hi v6
  len := fun ⟨v4, v5, v6, h, hw, h4, h5, h6⟩ => by rw [h]; rfl
  mono := fun hl ⟨v4, v5, v6, h, hw, h4, h5, h6⟩ => ⟨v4, v5, v6, h, hw, h4.mono hl, h5.mono hl, h6.mono hl⟩
  one := fun ⟨v4, v5, v6, h, hw, h4, h5, h6⟩ u hu => by
    rw [h] at hu
    simp only [List.mem_cons, List.not_mem_nil, or_false] at hu
    rcases hu with rfl | rfl | rfl | rfl | rfl | rfl | rfl | rfl | rfl | rfl | rfl | rfl | rfl | rfl | rfl | rfl | rfl | rfl <;> first | rfl | (exact RepSl.oneCell (by assumption))
instance : Rep Bt.Town where
  sz := 7
  bytes := 64
  rep := fun _ x cs => cs = [.string x.Name, .int .i64 x.Place, .int .i64 x.Flood, .int .i64 x.Lead, .int .i64 x.People, .int .i64 x.Watch, .int .i64 x.Quorum] ∧ (x.Name.size ≤ maxLen ∧ I64 x.Place ∧ I64 x.Flood ∧ I64 x.Lead ∧ I64 x.People ∧ I64 x.Watch ∧ I64 x.Quorum)
  len := fun h => by rw [h.1]; rfl
  mono := fun _ h => h
  one := fun h u hu => by
    rw [h.1] at hu
    simp only [List.mem_cons, List.not_mem_nil, or_false] at hu
    rcases hu with rfl | rfl | rfl | rfl | rfl | rfl | rfl <;> rfl
instance : RepE Bt.Town where
  cells := fun x => [.string x.Name, .int .i64 x.Place, .int .i64 x.Flood, .int .i64 x.Lead, .int .i64 x.People, .int .i64 x.Watch, .int .i64 x.Quorum]
  wf := fun x => x.Name.size ≤ maxLen ∧ I64 x.Place ∧ I64 x.Flood ∧ I64 x.Lead ∧ I64 x.People ∧ I64 x.Watch ∧ I64 x.Quorum
  iff := Iff.rfl
instance : Rep Bt.Gauge where
  sz := 5
  bytes := 48
  rep := fun _ x cs => cs = [.string x.Name, .int .i64 x.Kind, .int .i64 x.Target, .int .i64 x.Err, .int .i64 x.Drift] ∧ (x.Name.size ≤ maxLen ∧ I64 x.Kind ∧ I64 x.Target ∧ I64 x.Err ∧ I64 x.Drift)
  len := fun h => by rw [h.1]; rfl
  mono := fun _ h => h
  one := fun h u hu => by
    rw [h.1] at hu
    simp only [List.mem_cons, List.not_mem_nil, or_false] at hu
    rcases hu with rfl | rfl | rfl | rfl | rfl <;> rfl
instance : RepE Bt.Gauge where
  cells := fun x => [.string x.Name, .int .i64 x.Kind, .int .i64 x.Target, .int .i64 x.Err, .int .i64 x.Drift]
  wf := fun x => x.Name.size ≤ maxLen ∧ I64 x.Kind ∧ I64 x.Target ∧ I64 x.Err ∧ I64 x.Drift
  iff := Iff.rfl
instance : Rep Bt.Road where
  sz := 7
  bytes := 64
  rep := fun _ x cs => cs = [.string x.Name, .int .i64 x.From, .int .i64 x.To, .int .i64 x.Hours, .int .i64 x.Flow, .int .i64 x.By, .int .i64 x.Limit] ∧ (x.Name.size ≤ maxLen ∧ I64 x.From ∧ I64 x.To ∧ I64 x.Hours ∧ I64 x.Flow ∧ I64 x.By ∧ I64 x.Limit)
  len := fun h => by rw [h.1]; rfl
  mono := fun _ h => h
  one := fun h u hu => by
    rw [h.1] at hu
    simp only [List.mem_cons, List.not_mem_nil, or_false] at hu
    rcases hu with rfl | rfl | rfl | rfl | rfl | rfl | rfl <;> rfl
instance : RepE Bt.Road where
  cells := fun x => [.string x.Name, .int .i64 x.From, .int .i64 x.To, .int .i64 x.Hours, .int .i64 x.Flow, .int .i64 x.By, .int .i64 x.Limit]
  wf := fun x => x.Name.size ≤ maxLen ∧ I64 x.From ∧ I64 x.To ∧ I64 x.Hours ∧ I64 x.Flow ∧ I64 x.By ∧ I64 x.Limit
  iff := Iff.rfl
instance : Rep Bt.Shelter where
  sz := 2
  bytes := 24
  rep := fun _ x cs => cs = [.string x.Name, .int .i64 x.Room] ∧ (x.Name.size ≤ maxLen ∧ I64 x.Room)
  len := fun h => by rw [h.1]; rfl
  mono := fun _ h => h
  one := fun h u hu => by
    rw [h.1] at hu
    simp only [List.mem_cons, List.not_mem_nil, or_false] at hu
    rcases hu with rfl | rfl <;> rfl
instance : RepE Bt.Shelter where
  cells := fun x => [.string x.Name, .int .i64 x.Room]
  wf := fun x => x.Name.size ≤ maxLen ∧ I64 x.Room
  iff := Iff.rfl
instance : Rep Bt.Basin where
  sz := 11
  bytes := 224
  rep := fun Φ x cs => ∃ v1 v3 v4 v5 v6 v7 v8 v9, cs = [.string x.Name, v1, .int .i64 x.Cells, v3, v4, v5, v6, v7, v8, v9, .int .i64 x.Err] ∧ (x.Name.size ≤ maxLen ∧ I64 x.Cells ∧ I64 x.Err) ∧ RepSl Φ x.Owners v1 ∧ RepSl Φ x.Places v3 ∧ RepSl Φ x.Links v4 ∧ RepSl Φ x.Towns v5 ∧ RepSl Φ x.Gauges v6 ∧ RepSl Φ x.Roads v7 ∧ RepSl Φ x.Shelters v8 ∧ RepSl Φ x.Room v9
  len := fun ⟨v1, v3, v4, v5, v6, v7, v8, v9, h, hw, h1, h3, h4, h5, h6, h7, h8, h9⟩ => by rw [h]; rfl
  mono := fun hl ⟨v1, v3, v4, v5, v6, v7, v8, v9, h, hw, h1, h3, h4, h5, h6, h7, h8, h9⟩ => ⟨v1, v3, v4, v5, v6, v7, v8, v9, h, hw, h1.mono hl, h3.mono hl, h4.mono hl, h5.mono hl, h6.mono hl, h7.mono hl, h8.mono hl, h9.mono hl⟩
  one := fun ⟨v1, v3, v4, v5, v6, v7, v8, v9, h, hw, h1, h3, h4, h5, h6, h7, h8, h9⟩ u hu => by
    rw [h] at hu
    simp only [List.mem_cons, List.not_mem_nil, or_false] at hu
    rcases hu with rfl | rfl | rfl | rfl | rfl | rfl | rfl | rfl | rfl | rfl | rfl <;> first | rfl | (exact RepSl.oneCell (by assumption))
instance : Rep Bt.Arc where
  sz := 2
  bytes := 16
  rep := fun _ x cs => cs = [.int .i64 x.From, .int .i64 x.To] ∧ (I64 x.From ∧ I64 x.To)
  len := fun h => by rw [h.1]; rfl
  mono := fun _ h => h
  one := fun h u hu => by
    rw [h.1] at hu
    simp only [List.mem_cons, List.not_mem_nil, or_false] at hu
    rcases hu with rfl | rfl <;> rfl
instance : RepE Bt.Arc where
  cells := fun x => [.int .i64 x.From, .int .i64 x.To]
  wf := fun x => I64 x.From ∧ I64 x.To
  iff := Iff.rfl
end Go.Proofs.YtpapfpoefiikpaaGreatDoor
namespace Go.Proofs.YtpapfpoefiikpaaGreatDoor
open Go Go.K Go.ChangeShapes Go.RowKit Go.WideElems
theorem Tryz.own : ownKnob Tryz.prog.godebug = none := by kernel_rfl
theorem Tryz.laidOut : laidOutB Tryz.prog = true := by kernel_rfl
theorem len2 {α : Type} {l : List α} (h : l.length = 2) : ∃ c0 c1, l = [c0, c1] := by
  match l, h with
  | [c0, c1], _ => exact ⟨c0, c1, rfl⟩
theorem len5 {α : Type} {l : List α} (h : l.length = 5) : ∃ c0 c1 c2 c3 c4, l = [c0, c1, c2, c3, c4] := by
  match l, h with
  | [c0, c1, c2, c3, c4], _ => exact ⟨c0, c1, c2, c3, c4, rfl⟩
theorem len7 {α : Type} {l : List α} (h : l.length = 7) : ∃ c0 c1 c2 c3 c4 c5 c6, l = [c0, c1, c2, c3, c4, c5, c6] := by
  match l, h with
  | [c0, c1, c2, c3, c4, c5, c6], _ => exact ⟨c0, c1, c2, c3, c4, c5, c6, rfl⟩
theorem len11 {α : Type} {l : List α} (h : l.length = 11) : ∃ c0 c1 c2 c3 c4 c5 c6 c7 c8 c9 c10, l = [c0, c1, c2, c3, c4, c5, c6, c7, c8, c9, c10] := by
  match l, h with
  | [c0, c1, c2, c3, c4, c5, c6, c7, c8, c9, c10], _ => exact ⟨c0, c1, c2, c3, c4, c5, c6, c7, c8, c9, c10, rfl⟩
theorem len12 {α : Type} {l : List α} (h : l.length = 12) : ∃ c0 c1 c2 c3 c4 c5 c6 c7 c8 c9 c10 c11, l = [c0, c1, c2, c3, c4, c5, c6, c7, c8, c9, c10, c11] := by
  match l, h with
  | [c0, c1, c2, c3, c4, c5, c6, c7, c8, c9, c10, c11], _ => exact ⟨c0, c1, c2, c3, c4, c5, c6, c7, c8, c9, c10, c11, rfl⟩
theorem len17 {α : Type} {l : List α} (h : l.length = 17) : ∃ c0 c1 c2 c3 c4 c5 c6 c7 c8 c9 c10 c11 c12 c13 c14 c15 c16, l = [c0, c1, c2, c3, c4, c5, c6, c7, c8, c9, c10, c11, c12, c13, c14, c15, c16] := by
  match l, h with
  | [c0, c1, c2, c3, c4, c5, c6, c7, c8, c9, c10, c11, c12, c13, c14, c15, c16], _ => exact ⟨c0, c1, c2, c3, c4, c5, c6, c7, c8, c9, c10, c11, c12, c13, c14, c15, c16, rfl⟩
theorem len18 {α : Type} {l : List α} (h : l.length = 18) : ∃ c0 c1 c2 c3 c4 c5 c6 c7 c8 c9 c10 c11 c12 c13 c14 c15 c16 c17, l = [c0, c1, c2, c3, c4, c5, c6, c7, c8, c9, c10, c11, c12, c13, c14, c15, c16, c17] := by
  match l, h with
  | [c0, c1, c2, c3, c4, c5, c6, c7, c8, c9, c10, c11, c12, c13, c14, c15, c16, c17], _ => exact ⟨c0, c1, c2, c3, c4, c5, c6, c7, c8, c9, c10, c11, c12, c13, c14, c15, c16, c17, rfl⟩
abbrev TT {H : Type} (enc : TypeId × Value → H) (W : World) (m : Nat) (cs : List Value) (xs : List (DataW H × List MemPlace)) (t i j : Nat) : Prop := DataW.trod enc Tryz.prog W 0 (fun _ => true) true m t ((cs.drop i).take (Tryz.prog.cellsOf t)) = xs[j]?
theorem opens22 : Opens (List (ByteArray)) Tryz.prog 22 := opens_slice Tryz.underlying22 (by kernel_rfl) (by kernel_rfl) (opens_string Tryz.underlying9)
theorem opens75 : Opens Bt.Point Tryz.prog 75 := fun enc W n cs x h hw => by
    obtain ⟨xs, m, _, rfl, hl, hlen, hf⟩ := DataW.trod_struct Tryz.underlying75 h
    have hw : (DataW.weightsEach Tryz.prog [3, 3] (xs.map (·.1))).all (· ≤ reachBytes) = true := by
      have h2 := hw
      simp only [DataW.weights, Tryz.underlying75] at h2
      exact h2
    have h0 : TT enc W m cs xs 3 0 0 := hf 0 _ rfl
    have h1 : TT enc W m cs xs 3 1 1 := hf 1 _ rfl
    have hl2 : cs.length = 2 := hl.trans (by kernel_rfl)
    have hx : xs.length = 2 := hlen
    obtain ⟨c0, c1, rfl⟩ := len2 hl2
    obtain ⟨x0, x1, rfl⟩ := len2 hx
    have e3 : Tryz.prog.cellsOf 3 = 1 := by kernel_rfl
    simp only [TT, e3, List.drop_zero, List.drop_succ_cons, List.take_succ_cons, List.take_zero, List.getElem?_cons_zero, List.getElem?_cons_succ] at h0 h1
    obtain ⟨a0, k0, _, w0⟩ := DataW.trod_int Tryz.underlying3 h0
    obtain rfl : c0 = .int .i64 a0 := by simpa using k0
    obtain ⟨a1, k1, _, w1⟩ := DataW.trod_int Tryz.underlying3 h1
    obtain rfl : c1 = .int .i64 a1 := by simpa using k1
    exact ⟨⟨a0, a1⟩, rfl, ⟨i64_wf w0, i64_wf w1⟩⟩
theorem opens55 : Opens (List (Bt.Point)) Tryz.prog 55 := opens_slice Tryz.underlying55 (by kernel_rfl) (by kernel_rfl) opens75
theorem opens29 : Opens (List (Int)) Tryz.prog 29 := opens_slice Tryz.underlying29 (by kernel_rfl) (by kernel_rfl) (opens_int Tryz.underlying3)
theorem opens138 : Opens Bt.Cell Tryz.prog 138 := fun enc W n cs x h hw => by
    obtain ⟨xs, m, _, rfl, hl, hlen, hf⟩ := DataW.trod_struct Tryz.underlying138 h
    have hw : (DataW.weightsEach Tryz.prog [3, 3] (xs.map (·.1))).all (· ≤ reachBytes) = true := by
      have h2 := hw
      simp only [DataW.weights, Tryz.underlying138] at h2
      exact h2
    have h0 : TT enc W m cs xs 3 0 0 := hf 0 _ rfl
    have h1 : TT enc W m cs xs 3 1 1 := hf 1 _ rfl
    have hl2 : cs.length = 2 := hl.trans (by kernel_rfl)
    have hx : xs.length = 2 := hlen
    obtain ⟨c0, c1, rfl⟩ := len2 hl2
    obtain ⟨x0, x1, rfl⟩ := len2 hx
    have e3 : Tryz.prog.cellsOf 3 = 1 := by kernel_rfl
    simp only [TT, e3, List.drop_zero, List.drop_succ_cons, List.take_succ_cons, List.take_zero, List.getElem?_cons_zero, List.getElem?_cons_succ] at h0 h1
    obtain ⟨a0, k0, _, w0⟩ := DataW.trod_int Tryz.underlying3 h0
    obtain rfl : c0 = .int .i64 a0 := by simpa using k0
    obtain ⟨a1, k1, _, w1⟩ := DataW.trod_int Tryz.underlying3 h1
    obtain rfl : c1 = .int .i64 a1 := by simpa using k1
    exact ⟨⟨a0, a1⟩, rfl, ⟨i64_wf w0, i64_wf w1⟩⟩
theorem opens56 : Opens (List (Bt.Cell)) Tryz.prog 56 := opens_slice Tryz.underlying56 (by kernel_rfl) (by kernel_rfl) opens138
theorem opens58 : Opens Bt.Place Tryz.prog 58 := fun enc W n cs x h hw => by
    obtain ⟨xs, m, _, rfl, hl, hlen, hf⟩ := DataW.trod_struct Tryz.underlying58 h
    have hw : (DataW.weightsEach Tryz.prog [9, 3, 3, 3, 55, 29, 3, 3, 3, 3, 3, 56] (xs.map (·.1))).all (· ≤ reachBytes) = true := by
      have h2 := hw
      simp only [DataW.weights, Tryz.underlying58] at h2
      exact h2
    have h0 : TT enc W m cs xs 9 0 0 := hf 0 _ rfl
    have h1 : TT enc W m cs xs 3 1 1 := hf 1 _ rfl
    have h2 : TT enc W m cs xs 3 2 2 := hf 2 _ rfl
    have h3 : TT enc W m cs xs 3 3 3 := hf 3 _ rfl
    have h4 : TT enc W m cs xs 55 4 4 := hf 4 _ rfl
    have h5 : TT enc W m cs xs 29 5 5 := hf 5 _ rfl
    have h6 : TT enc W m cs xs 3 6 6 := hf 6 _ rfl
    have h7 : TT enc W m cs xs 3 7 7 := hf 7 _ rfl
    have h8 : TT enc W m cs xs 3 8 8 := hf 8 _ rfl
    have h9 : TT enc W m cs xs 3 9 9 := hf 9 _ rfl
    have h10 : TT enc W m cs xs 3 10 10 := hf 10 _ rfl
    have h11 : TT enc W m cs xs 56 11 11 := hf 11 _ rfl
    have hl2 : cs.length = 12 := hl.trans (by kernel_rfl)
    have hx : xs.length = 12 := hlen
    obtain ⟨c0, c1, c2, c3, c4, c5, c6, c7, c8, c9, c10, c11, rfl⟩ := len12 hl2
    obtain ⟨x0, x1, x2, x3, x4, x5, x6, x7, x8, x9, x10, x11, rfl⟩ := len12 hx
    have e3 : Tryz.prog.cellsOf 3 = 1 := by kernel_rfl
    have e9 : Tryz.prog.cellsOf 9 = 1 := by kernel_rfl
    have e29 : Tryz.prog.cellsOf 29 = 1 := by kernel_rfl
    have e55 : Tryz.prog.cellsOf 55 = 1 := by kernel_rfl
    have e56 : Tryz.prog.cellsOf 56 = 1 := by kernel_rfl
    simp only [TT, e29, e3, e55, e56, e9, List.drop_zero, List.drop_succ_cons, List.take_succ_cons, List.take_zero, List.getElem?_cons_zero, List.getElem?_cons_succ] at h0 h1 h2 h3 h4 h5 h6 h7 h8 h9 h10 h11
    obtain ⟨a0, k0, _, w0⟩ := DataW.trod_string Tryz.underlying9 h0
    obtain rfl : c0 = .string a0 := by simpa using k0
    obtain ⟨a1, k1, _, w1⟩ := DataW.trod_int Tryz.underlying3 h1
    obtain rfl : c1 = .int .i64 a1 := by simpa using k1
    obtain ⟨a2, k2, _, w2⟩ := DataW.trod_int Tryz.underlying3 h2
    obtain rfl : c2 = .int .i64 a2 := by simpa using k2
    obtain ⟨a3, k3, _, w3⟩ := DataW.trod_int Tryz.underlying3 h3
    obtain rfl : c3 = .int .i64 a3 := by simpa using k3
    obtain ⟨a4, v4, k4, r4⟩ := opens55 enc W m _ _ h4 (weights_arg 4 hw rfl rfl)
    obtain rfl : c4 = v4 := by simpa using k4
    obtain ⟨a5, v5, k5, r5⟩ := opens29 enc W m _ _ h5 (weights_arg 5 hw rfl rfl)
    obtain rfl : c5 = v5 := by simpa using k5
    obtain ⟨a6, k6, _, w6⟩ := DataW.trod_int Tryz.underlying3 h6
    obtain rfl : c6 = .int .i64 a6 := by simpa using k6
    obtain ⟨a7, k7, _, w7⟩ := DataW.trod_int Tryz.underlying3 h7
    obtain rfl : c7 = .int .i64 a7 := by simpa using k7
    obtain ⟨a8, k8, _, w8⟩ := DataW.trod_int Tryz.underlying3 h8
    obtain rfl : c8 = .int .i64 a8 := by simpa using k8
    obtain ⟨a9, k9, _, w9⟩ := DataW.trod_int Tryz.underlying3 h9
    obtain rfl : c9 = .int .i64 a9 := by simpa using k9
    obtain ⟨a10, k10, _, w10⟩ := DataW.trod_int Tryz.underlying3 h10
    obtain rfl : c10 = .int .i64 a10 := by simpa using k10
    obtain ⟨a11, v11, k11, r11⟩ := opens56 enc W m _ _ h11 (weights_arg 11 hw rfl rfl)
    obtain rfl : c11 = v11 := by simpa using k11
    exact ⟨⟨a0, a1, a2, a3, a4, a5, a6, a7, a8, a9, a10, a11⟩, _, _, _, rfl, ⟨w0, i64_wf w1, i64_wf w2, i64_wf w3, i64_wf w6, i64_wf w7, i64_wf w8, i64_wf w9, i64_wf w10⟩, r4, r5, r11⟩
theorem opens23 : Opens (List (Bt.Place)) Tryz.prog 23 := opens_slice Tryz.underlying23 (by kernel_rfl) (by kernel_rfl) opens58
theorem opens70 : Opens Bt.Band Tryz.prog 70 := fun enc W n cs x h hw => by
    obtain ⟨xs, m, _, rfl, hl, hlen, hf⟩ := DataW.trod_struct Tryz.underlying70 h
    have hw : (DataW.weightsEach Tryz.prog [55, 55] (xs.map (·.1))).all (· ≤ reachBytes) = true := by
      have h2 := hw
      simp only [DataW.weights, Tryz.underlying70] at h2
      exact h2
    have h0 : TT enc W m cs xs 55 0 0 := hf 0 _ rfl
    have h1 : TT enc W m cs xs 55 1 1 := hf 1 _ rfl
    have hl2 : cs.length = 2 := hl.trans (by kernel_rfl)
    have hx : xs.length = 2 := hlen
    obtain ⟨c0, c1, rfl⟩ := len2 hl2
    obtain ⟨x0, x1, rfl⟩ := len2 hx
    have e55 : Tryz.prog.cellsOf 55 = 1 := by kernel_rfl
    simp only [TT, e55, List.drop_zero, List.drop_succ_cons, List.take_succ_cons, List.take_zero, List.getElem?_cons_zero, List.getElem?_cons_succ] at h0 h1
    obtain ⟨a0, v0, k0, r0⟩ := opens55 enc W m _ _ h0 (weights_arg 0 hw rfl rfl)
    obtain rfl : c0 = v0 := by simpa using k0
    obtain ⟨a1, v1, k1, r1⟩ := opens55 enc W m _ _ h1 (weights_arg 1 hw rfl rfl)
    obtain rfl : c1 = v1 := by simpa using k1
    exact ⟨⟨a0, a1⟩, _, _, rfl, trivial, r0, r1⟩
theorem opens72 : Opens Bt.Link Tryz.prog 72 := fun enc W n cs x h hw => by
    obtain ⟨xs, m, _, rfl, hl, hlen, hf⟩ := DataW.trod_struct Tryz.underlying72 h
    have hw : (DataW.weightsEach Tryz.prog [9, 3, 3, 3, 55, 70, 3, 3, 3, 3, 3, 3, 3, 3, 3, 3, 3] (xs.map (·.1))).all (· ≤ reachBytes) = true := by
      have h2 := hw
      simp only [DataW.weights, Tryz.underlying72] at h2
      exact h2
    have h0 : TT enc W m cs xs 9 0 0 := hf 0 _ rfl
    have h1 : TT enc W m cs xs 3 1 1 := hf 1 _ rfl
    have h2 : TT enc W m cs xs 3 2 2 := hf 2 _ rfl
    have h3 : TT enc W m cs xs 3 3 3 := hf 3 _ rfl
    have h4 : TT enc W m cs xs 55 4 4 := hf 4 _ rfl
    have h5 : TT enc W m cs xs 70 5 5 := hf 5 _ rfl
    have h6 : TT enc W m cs xs 3 7 6 := hf 6 _ rfl
    have h7 : TT enc W m cs xs 3 8 7 := hf 7 _ rfl
    have h8 : TT enc W m cs xs 3 9 8 := hf 8 _ rfl
    have h9 : TT enc W m cs xs 3 10 9 := hf 9 _ rfl
    have h10 : TT enc W m cs xs 3 11 10 := hf 10 _ rfl
    have h11 : TT enc W m cs xs 3 12 11 := hf 11 _ rfl
    have h12 : TT enc W m cs xs 3 13 12 := hf 12 _ rfl
    have h13 : TT enc W m cs xs 3 14 13 := hf 13 _ rfl
    have h14 : TT enc W m cs xs 3 15 14 := hf 14 _ rfl
    have h15 : TT enc W m cs xs 3 16 15 := hf 15 _ rfl
    have h16 : TT enc W m cs xs 3 17 16 := hf 16 _ rfl
    have hl2 : cs.length = 18 := hl.trans (by kernel_rfl)
    have hx : xs.length = 17 := hlen
    obtain ⟨c0, c1, c2, c3, c4, c5, c6, c7, c8, c9, c10, c11, c12, c13, c14, c15, c16, c17, rfl⟩ := len18 hl2
    obtain ⟨x0, x1, x2, x3, x4, x5, x6, x7, x8, x9, x10, x11, x12, x13, x14, x15, x16, rfl⟩ := len17 hx
    have e3 : Tryz.prog.cellsOf 3 = 1 := by kernel_rfl
    have e9 : Tryz.prog.cellsOf 9 = 1 := by kernel_rfl
    have e55 : Tryz.prog.cellsOf 55 = 1 := by kernel_rfl
    have e70 : Tryz.prog.cellsOf 70 = 2 := by kernel_rfl
    simp only [TT, e3, e55, e70, e9, List.drop_zero, List.drop_succ_cons, List.take_succ_cons, List.take_zero, List.getElem?_cons_zero, List.getElem?_cons_succ] at h0 h1 h2 h3 h4 h5 h6 h7 h8 h9 h10 h11 h12 h13 h14 h15 h16
    obtain ⟨a0, k0, _, w0⟩ := DataW.trod_string Tryz.underlying9 h0
    obtain rfl : c0 = .string a0 := by simpa using k0
    obtain ⟨a1, k1, _, w1⟩ := DataW.trod_int Tryz.underlying3 h1
    obtain rfl : c1 = .int .i64 a1 := by simpa using k1
    obtain ⟨a2, k2, _, w2⟩ := DataW.trod_int Tryz.underlying3 h2
    obtain rfl : c2 = .int .i64 a2 := by simpa using k2
    obtain ⟨a3, k3, _, w3⟩ := DataW.trod_int Tryz.underlying3 h3
    obtain rfl : c3 = .int .i64 a3 := by simpa using k3
    obtain ⟨a4, v4, k4, r4⟩ := opens55 enc W m _ _ h4 (weights_arg 4 hw rfl rfl)
    obtain rfl : c4 = v4 := by simpa using k4
    obtain ⟨a5, v5, v6, k5, w5, r5, r6⟩ := opens70 enc W m _ _ h5 (weights_arg 5 hw rfl rfl)
    simp only [List.cons.injEq, and_true] at k5
    obtain ⟨rfl, rfl⟩ := k5
    obtain ⟨a6, k6, _, w6⟩ := DataW.trod_int Tryz.underlying3 h6
    obtain rfl : c7 = .int .i64 a6 := by simpa using k6
    obtain ⟨a7, k7, _, w7⟩ := DataW.trod_int Tryz.underlying3 h7
    obtain rfl : c8 = .int .i64 a7 := by simpa using k7
    obtain ⟨a8, k8, _, w8⟩ := DataW.trod_int Tryz.underlying3 h8
    obtain rfl : c9 = .int .i64 a8 := by simpa using k8
    obtain ⟨a9, k9, _, w9⟩ := DataW.trod_int Tryz.underlying3 h9
    obtain rfl : c10 = .int .i64 a9 := by simpa using k9
    obtain ⟨a10, k10, _, w10⟩ := DataW.trod_int Tryz.underlying3 h10
    obtain rfl : c11 = .int .i64 a10 := by simpa using k10
    obtain ⟨a11, k11, _, w11⟩ := DataW.trod_int Tryz.underlying3 h11
    obtain rfl : c12 = .int .i64 a11 := by simpa using k11
    obtain ⟨a12, k12, _, w12⟩ := DataW.trod_int Tryz.underlying3 h12
    obtain rfl : c13 = .int .i64 a12 := by simpa using k12
    obtain ⟨a13, k13, _, w13⟩ := DataW.trod_int Tryz.underlying3 h13
    obtain rfl : c14 = .int .i64 a13 := by simpa using k13
    obtain ⟨a14, k14, _, w14⟩ := DataW.trod_int Tryz.underlying3 h14
    obtain rfl : c15 = .int .i64 a14 := by simpa using k14
    obtain ⟨a15, k15, _, w15⟩ := DataW.trod_int Tryz.underlying3 h15
    obtain rfl : c16 = .int .i64 a15 := by simpa using k15
    obtain ⟨a16, k16, _, w16⟩ := DataW.trod_int Tryz.underlying3 h16
    obtain rfl : c17 = .int .i64 a16 := by simpa using k16
    exact ⟨⟨a0, a1, a2, a3, a4, a5, a6, a7, a8, a9, a10, a11, a12, a13, a14, a15, a16⟩, _, _, _, rfl, ⟨w0, i64_wf w1, i64_wf w2, i64_wf w3, i64_wf w6, i64_wf w7, i64_wf w8, i64_wf w9, i64_wf w10, i64_wf w11, i64_wf w12, i64_wf w13, i64_wf w14, i64_wf w15, i64_wf w16⟩, r4, r5, r6⟩
theorem opens24 : Opens (List (Bt.Link)) Tryz.prog 24 := opens_slice Tryz.underlying24 (by kernel_rfl) (by kernel_rfl) opens72
theorem opens84 : Opens Bt.Town Tryz.prog 84 := fun enc W n cs x h hw => by
    obtain ⟨xs, m, _, rfl, hl, hlen, hf⟩ := DataW.trod_struct Tryz.underlying84 h
    have hw : (DataW.weightsEach Tryz.prog [9, 3, 3, 3, 3, 3, 3] (xs.map (·.1))).all (· ≤ reachBytes) = true := by
      have h2 := hw
      simp only [DataW.weights, Tryz.underlying84] at h2
      exact h2
    have h0 : TT enc W m cs xs 9 0 0 := hf 0 _ rfl
    have h1 : TT enc W m cs xs 3 1 1 := hf 1 _ rfl
    have h2 : TT enc W m cs xs 3 2 2 := hf 2 _ rfl
    have h3 : TT enc W m cs xs 3 3 3 := hf 3 _ rfl
    have h4 : TT enc W m cs xs 3 4 4 := hf 4 _ rfl
    have h5 : TT enc W m cs xs 3 5 5 := hf 5 _ rfl
    have h6 : TT enc W m cs xs 3 6 6 := hf 6 _ rfl
    have hl2 : cs.length = 7 := hl.trans (by kernel_rfl)
    have hx : xs.length = 7 := hlen
    obtain ⟨c0, c1, c2, c3, c4, c5, c6, rfl⟩ := len7 hl2
    obtain ⟨x0, x1, x2, x3, x4, x5, x6, rfl⟩ := len7 hx
    have e3 : Tryz.prog.cellsOf 3 = 1 := by kernel_rfl
    have e9 : Tryz.prog.cellsOf 9 = 1 := by kernel_rfl
    simp only [TT, e3, e9, List.drop_zero, List.drop_succ_cons, List.take_succ_cons, List.take_zero, List.getElem?_cons_zero, List.getElem?_cons_succ] at h0 h1 h2 h3 h4 h5 h6
    obtain ⟨a0, k0, _, w0⟩ := DataW.trod_string Tryz.underlying9 h0
    obtain rfl : c0 = .string a0 := by simpa using k0
    obtain ⟨a1, k1, _, w1⟩ := DataW.trod_int Tryz.underlying3 h1
    obtain rfl : c1 = .int .i64 a1 := by simpa using k1
    obtain ⟨a2, k2, _, w2⟩ := DataW.trod_int Tryz.underlying3 h2
    obtain rfl : c2 = .int .i64 a2 := by simpa using k2
    obtain ⟨a3, k3, _, w3⟩ := DataW.trod_int Tryz.underlying3 h3
    obtain rfl : c3 = .int .i64 a3 := by simpa using k3
    obtain ⟨a4, k4, _, w4⟩ := DataW.trod_int Tryz.underlying3 h4
    obtain rfl : c4 = .int .i64 a4 := by simpa using k4
    obtain ⟨a5, k5, _, w5⟩ := DataW.trod_int Tryz.underlying3 h5
    obtain rfl : c5 = .int .i64 a5 := by simpa using k5
    obtain ⟨a6, k6, _, w6⟩ := DataW.trod_int Tryz.underlying3 h6
    obtain rfl : c6 = .int .i64 a6 := by simpa using k6
    exact ⟨⟨a0, a1, a2, a3, a4, a5, a6⟩, rfl, ⟨w0, i64_wf w1, i64_wf w2, i64_wf w3, i64_wf w4, i64_wf w5, i64_wf w6⟩⟩
theorem opens25 : Opens (List (Bt.Town)) Tryz.prog 25 := opens_slice Tryz.underlying25 (by kernel_rfl) (by kernel_rfl) opens84
theorem opens89 : Opens Bt.Gauge Tryz.prog 89 := fun enc W n cs x h hw => by
    obtain ⟨xs, m, _, rfl, hl, hlen, hf⟩ := DataW.trod_struct Tryz.underlying89 h
    have hw : (DataW.weightsEach Tryz.prog [9, 3, 3, 3, 3] (xs.map (·.1))).all (· ≤ reachBytes) = true := by
      have h2 := hw
      simp only [DataW.weights, Tryz.underlying89] at h2
      exact h2
    have h0 : TT enc W m cs xs 9 0 0 := hf 0 _ rfl
    have h1 : TT enc W m cs xs 3 1 1 := hf 1 _ rfl
    have h2 : TT enc W m cs xs 3 2 2 := hf 2 _ rfl
    have h3 : TT enc W m cs xs 3 3 3 := hf 3 _ rfl
    have h4 : TT enc W m cs xs 3 4 4 := hf 4 _ rfl
    have hl2 : cs.length = 5 := hl.trans (by kernel_rfl)
    have hx : xs.length = 5 := hlen
    obtain ⟨c0, c1, c2, c3, c4, rfl⟩ := len5 hl2
    obtain ⟨x0, x1, x2, x3, x4, rfl⟩ := len5 hx
    have e3 : Tryz.prog.cellsOf 3 = 1 := by kernel_rfl
    have e9 : Tryz.prog.cellsOf 9 = 1 := by kernel_rfl
    simp only [TT, e3, e9, List.drop_zero, List.drop_succ_cons, List.take_succ_cons, List.take_zero, List.getElem?_cons_zero, List.getElem?_cons_succ] at h0 h1 h2 h3 h4
    obtain ⟨a0, k0, _, w0⟩ := DataW.trod_string Tryz.underlying9 h0
    obtain rfl : c0 = .string a0 := by simpa using k0
    obtain ⟨a1, k1, _, w1⟩ := DataW.trod_int Tryz.underlying3 h1
    obtain rfl : c1 = .int .i64 a1 := by simpa using k1
    obtain ⟨a2, k2, _, w2⟩ := DataW.trod_int Tryz.underlying3 h2
    obtain rfl : c2 = .int .i64 a2 := by simpa using k2
    obtain ⟨a3, k3, _, w3⟩ := DataW.trod_int Tryz.underlying3 h3
    obtain rfl : c3 = .int .i64 a3 := by simpa using k3
    obtain ⟨a4, k4, _, w4⟩ := DataW.trod_int Tryz.underlying3 h4
    obtain rfl : c4 = .int .i64 a4 := by simpa using k4
    exact ⟨⟨a0, a1, a2, a3, a4⟩, rfl, ⟨w0, i64_wf w1, i64_wf w2, i64_wf w3, i64_wf w4⟩⟩
theorem opens26 : Opens (List (Bt.Gauge)) Tryz.prog 26 := opens_slice Tryz.underlying26 (by kernel_rfl) (by kernel_rfl) opens89
theorem opens92 : Opens Bt.Road Tryz.prog 92 := fun enc W n cs x h hw => by
    obtain ⟨xs, m, _, rfl, hl, hlen, hf⟩ := DataW.trod_struct Tryz.underlying92 h
    have hw : (DataW.weightsEach Tryz.prog [9, 3, 3, 3, 3, 3, 3] (xs.map (·.1))).all (· ≤ reachBytes) = true := by
      have h2 := hw
      simp only [DataW.weights, Tryz.underlying92] at h2
      exact h2
    have h0 : TT enc W m cs xs 9 0 0 := hf 0 _ rfl
    have h1 : TT enc W m cs xs 3 1 1 := hf 1 _ rfl
    have h2 : TT enc W m cs xs 3 2 2 := hf 2 _ rfl
    have h3 : TT enc W m cs xs 3 3 3 := hf 3 _ rfl
    have h4 : TT enc W m cs xs 3 4 4 := hf 4 _ rfl
    have h5 : TT enc W m cs xs 3 5 5 := hf 5 _ rfl
    have h6 : TT enc W m cs xs 3 6 6 := hf 6 _ rfl
    have hl2 : cs.length = 7 := hl.trans (by kernel_rfl)
    have hx : xs.length = 7 := hlen
    obtain ⟨c0, c1, c2, c3, c4, c5, c6, rfl⟩ := len7 hl2
    obtain ⟨x0, x1, x2, x3, x4, x5, x6, rfl⟩ := len7 hx
    have e3 : Tryz.prog.cellsOf 3 = 1 := by kernel_rfl
    have e9 : Tryz.prog.cellsOf 9 = 1 := by kernel_rfl
    simp only [TT, e3, e9, List.drop_zero, List.drop_succ_cons, List.take_succ_cons, List.take_zero, List.getElem?_cons_zero, List.getElem?_cons_succ] at h0 h1 h2 h3 h4 h5 h6
    obtain ⟨a0, k0, _, w0⟩ := DataW.trod_string Tryz.underlying9 h0
    obtain rfl : c0 = .string a0 := by simpa using k0
    obtain ⟨a1, k1, _, w1⟩ := DataW.trod_int Tryz.underlying3 h1
    obtain rfl : c1 = .int .i64 a1 := by simpa using k1
    obtain ⟨a2, k2, _, w2⟩ := DataW.trod_int Tryz.underlying3 h2
    obtain rfl : c2 = .int .i64 a2 := by simpa using k2
    obtain ⟨a3, k3, _, w3⟩ := DataW.trod_int Tryz.underlying3 h3
    obtain rfl : c3 = .int .i64 a3 := by simpa using k3
    obtain ⟨a4, k4, _, w4⟩ := DataW.trod_int Tryz.underlying3 h4
    obtain rfl : c4 = .int .i64 a4 := by simpa using k4
    obtain ⟨a5, k5, _, w5⟩ := DataW.trod_int Tryz.underlying3 h5
    obtain rfl : c5 = .int .i64 a5 := by simpa using k5
    obtain ⟨a6, k6, _, w6⟩ := DataW.trod_int Tryz.underlying3 h6
    obtain rfl : c6 = .int .i64 a6 := by simpa using k6
    exact ⟨⟨a0, a1, a2, a3, a4, a5, a6⟩, rfl, ⟨w0, i64_wf w1, i64_wf w2, i64_wf w3, i64_wf w4, i64_wf w5, i64_wf w6⟩⟩
theorem opens27 : Opens (List (Bt.Road)) Tryz.prog 27 := opens_slice Tryz.underlying27 (by kernel_rfl) (by kernel_rfl) opens92
theorem opens95 : Opens Bt.Shelter Tryz.prog 95 := fun enc W n cs x h hw => by
    obtain ⟨xs, m, _, rfl, hl, hlen, hf⟩ := DataW.trod_struct Tryz.underlying95 h
    have hw : (DataW.weightsEach Tryz.prog [9, 3] (xs.map (·.1))).all (· ≤ reachBytes) = true := by
      have h2 := hw
      simp only [DataW.weights, Tryz.underlying95] at h2
      exact h2
    have h0 : TT enc W m cs xs 9 0 0 := hf 0 _ rfl
    have h1 : TT enc W m cs xs 3 1 1 := hf 1 _ rfl
    have hl2 : cs.length = 2 := hl.trans (by kernel_rfl)
    have hx : xs.length = 2 := hlen
    obtain ⟨c0, c1, rfl⟩ := len2 hl2
    obtain ⟨x0, x1, rfl⟩ := len2 hx
    have e3 : Tryz.prog.cellsOf 3 = 1 := by kernel_rfl
    have e9 : Tryz.prog.cellsOf 9 = 1 := by kernel_rfl
    simp only [TT, e3, e9, List.drop_zero, List.drop_succ_cons, List.take_succ_cons, List.take_zero, List.getElem?_cons_zero, List.getElem?_cons_succ] at h0 h1
    obtain ⟨a0, k0, _, w0⟩ := DataW.trod_string Tryz.underlying9 h0
    obtain rfl : c0 = .string a0 := by simpa using k0
    obtain ⟨a1, k1, _, w1⟩ := DataW.trod_int Tryz.underlying3 h1
    obtain rfl : c1 = .int .i64 a1 := by simpa using k1
    exact ⟨⟨a0, a1⟩, rfl, ⟨w0, i64_wf w1⟩⟩
theorem opens28 : Opens (List (Bt.Shelter)) Tryz.prog 28 := opens_slice Tryz.underlying28 (by kernel_rfl) (by kernel_rfl) opens95
theorem opens31 : Opens Bt.Basin Tryz.prog 31 := fun enc W n cs x h hw => by
    obtain ⟨xs, m, _, rfl, hl, hlen, hf⟩ := DataW.trod_struct Tryz.underlying31 h
    have hw : (DataW.weightsEach Tryz.prog [9, 22, 3, 23, 24, 25, 26, 27, 28, 29, 3] (xs.map (·.1))).all (· ≤ reachBytes) = true := by
      have h2 := hw
      simp only [DataW.weights, Tryz.underlying31] at h2
      exact h2
    have h0 : TT enc W m cs xs 9 0 0 := hf 0 _ rfl
    have h1 : TT enc W m cs xs 22 1 1 := hf 1 _ rfl
    have h2 : TT enc W m cs xs 3 2 2 := hf 2 _ rfl
    have h3 : TT enc W m cs xs 23 3 3 := hf 3 _ rfl
    have h4 : TT enc W m cs xs 24 4 4 := hf 4 _ rfl
    have h5 : TT enc W m cs xs 25 5 5 := hf 5 _ rfl
    have h6 : TT enc W m cs xs 26 6 6 := hf 6 _ rfl
    have h7 : TT enc W m cs xs 27 7 7 := hf 7 _ rfl
    have h8 : TT enc W m cs xs 28 8 8 := hf 8 _ rfl
    have h9 : TT enc W m cs xs 29 9 9 := hf 9 _ rfl
    have h10 : TT enc W m cs xs 3 10 10 := hf 10 _ rfl
    have hl2 : cs.length = 11 := hl.trans (by kernel_rfl)
    have hx : xs.length = 11 := hlen
    obtain ⟨c0, c1, c2, c3, c4, c5, c6, c7, c8, c9, c10, rfl⟩ := len11 hl2
    obtain ⟨x0, x1, x2, x3, x4, x5, x6, x7, x8, x9, x10, rfl⟩ := len11 hx
    have e3 : Tryz.prog.cellsOf 3 = 1 := by kernel_rfl
    have e9 : Tryz.prog.cellsOf 9 = 1 := by kernel_rfl
    have e22 : Tryz.prog.cellsOf 22 = 1 := by kernel_rfl
    have e23 : Tryz.prog.cellsOf 23 = 1 := by kernel_rfl
    have e24 : Tryz.prog.cellsOf 24 = 1 := by kernel_rfl
    have e25 : Tryz.prog.cellsOf 25 = 1 := by kernel_rfl
    have e26 : Tryz.prog.cellsOf 26 = 1 := by kernel_rfl
    have e27 : Tryz.prog.cellsOf 27 = 1 := by kernel_rfl
    have e28 : Tryz.prog.cellsOf 28 = 1 := by kernel_rfl
    have e29 : Tryz.prog.cellsOf 29 = 1 := by kernel_rfl
    simp only [TT, e22, e23, e24, e25, e26, e27, e28, e29, e3, e9, List.drop_zero, List.drop_succ_cons, List.take_succ_cons, List.take_zero, List.getElem?_cons_zero, List.getElem?_cons_succ] at h0 h1 h2 h3 h4 h5 h6 h7 h8 h9 h10
    obtain ⟨a0, k0, _, w0⟩ := DataW.trod_string Tryz.underlying9 h0
    obtain rfl : c0 = .string a0 := by simpa using k0
    obtain ⟨a1, v1, k1, r1⟩ := opens22 enc W m _ _ h1 (weights_arg 1 hw rfl rfl)
    obtain rfl : c1 = v1 := by simpa using k1
    obtain ⟨a2, k2, _, w2⟩ := DataW.trod_int Tryz.underlying3 h2
    obtain rfl : c2 = .int .i64 a2 := by simpa using k2
    obtain ⟨a3, v3, k3, r3⟩ := opens23 enc W m _ _ h3 (weights_arg 3 hw rfl rfl)
    obtain rfl : c3 = v3 := by simpa using k3
    obtain ⟨a4, v4, k4, r4⟩ := opens24 enc W m _ _ h4 (weights_arg 4 hw rfl rfl)
    obtain rfl : c4 = v4 := by simpa using k4
    obtain ⟨a5, v5, k5, r5⟩ := opens25 enc W m _ _ h5 (weights_arg 5 hw rfl rfl)
    obtain rfl : c5 = v5 := by simpa using k5
    obtain ⟨a6, v6, k6, r6⟩ := opens26 enc W m _ _ h6 (weights_arg 6 hw rfl rfl)
    obtain rfl : c6 = v6 := by simpa using k6
    obtain ⟨a7, v7, k7, r7⟩ := opens27 enc W m _ _ h7 (weights_arg 7 hw rfl rfl)
    obtain rfl : c7 = v7 := by simpa using k7
    obtain ⟨a8, v8, k8, r8⟩ := opens28 enc W m _ _ h8 (weights_arg 8 hw rfl rfl)
    obtain rfl : c8 = v8 := by simpa using k8
    obtain ⟨a9, v9, k9, r9⟩ := opens29 enc W m _ _ h9 (weights_arg 9 hw rfl rfl)
    obtain rfl : c9 = v9 := by simpa using k9
    obtain ⟨a10, k10, _, w10⟩ := DataW.trod_int Tryz.underlying3 h10
    obtain rfl : c10 = .int .i64 a10 := by simpa using k10
    exact ⟨⟨a0, a1, a2, a3, a4, a5, a6, a7, a8, a9, a10⟩, _, _, _, _, _, _, _, _, rfl, ⟨w0, i64_wf w2, i64_wf w10⟩, r1, r3, r4, r5, r6, r7, r8, r9⟩
end Go.Proofs.YtpapfpoefiikpaaGreatDoor
