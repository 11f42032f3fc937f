/- Lemmas. Conditions: those of each theorem. -/
import Derived.Test.YtblfeidlnhdekaaGreatProg
import Derived.Test.YtblfeidlnhdekaaGreatSCore2
namespace Bt
structure Point where
  X : Int
  Y : Int
  deriving Inhabited, DecidableEq
structure Cell where
  Index : Int
  Area : Int
  deriving Inhabited, DecidableEq
structure Place where
  Name : ByteArray
  Kind : Int
  Office : Int
  Cap : Int
  Level : List Point
  Start : List Int
  Num : Int
  Den : Int
  Down : Int
  Delay : Int
  Floor : Int
  Rain : List Cell
  deriving Inhabited, DecidableEq
structure Band where
  Lo : List Point
  Hi : List Point
  deriving Inhabited, DecidableEq
structure Link where
  Name : ByteArray
  Kind : Int
  From : Int
  To : Int
  Rate : List Point
  Band : Band
  Positions : Int
  Speed : Int
  Leak : Int
  Crest : Int
  Num : Int
  Den : Int
  Prime : Int
  Break : Int
  BackNum : Int
  BackDen : Int
  Delay : Int
  deriving Inhabited, DecidableEq
structure Town where
  Name : ByteArray
  Place : Int
  Flood : Int
  Lead : Int
  People : Int
  Watch : Int
  Quorum : Int
  deriving Inhabited, DecidableEq
structure Gauge where
  Name : ByteArray
  Kind : Int
  Target : Int
  Err : Int
  Drift : Int
  deriving Inhabited, DecidableEq
structure Road where
  Name : ByteArray
  From : Int
  To : Int
  Hours : Int
  Flow : Int
  By : Int
  Limit : Int
  deriving Inhabited, DecidableEq
structure Shelter where
  Name : ByteArray
  Room : Int
  deriving Inhabited, DecidableEq
structure Basin where
  Name : ByteArray
  Owners : List ByteArray
  Cells : Int
  Places : List Place
  Links : List Link
  Towns : List Town
  Gauges : List Gauge
  Roads : List Road
  Shelters : List Shelter
  Room : List Int
  Err : Int
  deriving Inhabited, DecidableEq
structure Load where
  At : Int
  To : Int
  Part : List Int
  deriving Inhabited, DecidableEq
structure Gate where
  Pos : Int
  Target : Int
  Stuck : Bool
  Open : Bool
  deriving Inhabited, DecidableEq
structure State where
  Hour : Int
  Own : List (List Int)
  Rem : List Int
  Queue : List Load
  Gates : List Gate
  In : List Int
  Out : List Int
  deriving Inhabited, DecidableEq
structure Span where
  Lo : Int
  Hi : Int
  deriving Inhabited, DecidableEq
structure Sum where
  At : Int
  To : Int
  Vol : Span
  deriving Inhabited, DecidableEq
structure Known where
  Pos : Span
  Target : Int
  Open : Span
  deriving Inhabited, DecidableEq
structure Hull where
  Hour : Int
  Vol : List Span
  Queue : List Sum
  Links : List Known
  deriving Inhabited, DecidableEq
structure Look where
  Gauge : Int
  Less : Int
  More : Int
  deriving Inhabited, DecidableEq
structure Reading where
  Gauge : Int
  Hour : Int
  Value : Span
  deriving Inhabited, DecidableEq
structure Gram where
  Gauge : Int
  Seq : Int
  Clock : Int
  Value : Int
  Tag : ByteArray
  deriving Inhabited, DecidableEq
end Bt
namespace Go.Proofs.YtblfeidlnhdekaaGreat
open Go Go.K Go.RowKit
instance : Rep Bt.Point where
  sz := 2
  bytes := 16
  rep := fun _ x cs => cs = [.int .i64 x.X, .int .i64 x.Y] ∧ (I64 x.X ∧ I64 x.Y)
  len := fun h => by rw [h.1]; rfl
  mono := fun _ h => h
  one := fun h u hu => by
    rw [h.1] at hu
    simp only [List.mem_cons, List.not_mem_nil, or_false] at hu
    rcases hu with rfl | rfl <;> rfl
instance : RepE Bt.Point where
  cells := fun x => [.int .i64 x.X, .int .i64 x.Y]
  wf := fun x => I64 x.X ∧ I64 x.Y
  iff := Iff.rfl
instance : Rep Bt.Cell where
  sz := 2
  bytes := 16
  rep := fun _ x cs => cs = [.int .i64 x.Index, .int .i64 x.Area] ∧ (I64 x.Index ∧ I64 x.Area)
  len := fun h => by rw [h.1]; rfl
  mono := fun _ h => h
  one := fun h u hu => by
    rw [h.1] at hu
    simp only [List.mem_cons, List.not_mem_nil, or_false] at hu
    rcases hu with rfl | rfl <;> rfl
instance : RepE Bt.Cell where
  cells := fun x => [.int .i64 x.Index, .int .i64 x.Area]
  wf := fun x => I64 x.Index ∧ I64 x.Area
  iff := Iff.rfl
instance : Rep Bt.Place where
  sz := 12
  bytes := 152
  rep := fun Φ x cs => ∃ v4 v5 v11, cs = [.string x.Name, .int .i64 x.Kind, .int .i64 x.Office, .int .i64 x.Cap, v4, v5, .int .i64 x.Num, .int .i64 x.Den, .int .i64 x.Down, .int .i64 x.Delay, .int .i64 x.Floor, v11] ∧ (x.Name.size ≤ maxLen ∧ I64 x.Kind ∧ I64 x.Office ∧ I64 x.Cap ∧ I64 x.Num ∧ I64 x.Den ∧ I64 x.Down ∧ I64 x.Delay ∧ I64 x.Floor) ∧ RepSl Φ x.Level v4 ∧ RepSl Φ x.Start v5 ∧ RepSl Φ x.Rain v11
  len := fun ⟨v4, v5, v11, h, hw, h4, h5, h11⟩ => by rw [h]; rfl
  mono := fun hl ⟨v4, v5, v11, h, hw, h4, h5, h11⟩ => ⟨v4, v5, v11, h, hw, h4.mono hl, h5.mono hl, h11.mono hl⟩
  one := fun ⟨v4, v5, v11, h, hw, h4, h5, h11⟩ u hu => by
    rw [h] at hu
    simp only [List.mem_cons, List.not_mem_nil, or_false] at hu
    rcases hu with rfl | rfl | rfl | rfl | rfl | rfl | rfl | rfl | rfl | rfl | rfl | rfl <;> first | rfl | (exact RepSl.oneCell (by assumption))
theorem leaf71_2 {Φ : Hp} {x : Bt.Place} {cs : List Value} (h : Rep.rep Φ x cs) : cs[2]? = some (.int .i64 x.Office) := by obtain ⟨v4, v5, v11, h, hw, h4, h5, h11⟩ := h; rw [h]; rfl
theorem leaf71_4 {Φ : Hp} {xs : List Bt.Place} {v : Value} (h : RepSl Φ xs v) {k : Nat} (hk : k < xs.length) : ∃ sv, RepSl Φ (xs.getD k default).Level sv ∧ PCell Φ (Value.at v (k * 12 + 4)) sv := by
  obtain ⟨cs, ⟨v4, v5, v11, rfl, hw, h4, h5, h11⟩, hc⟩ := h.at_ k hk
  have hg : xs.getD k default = xs[k] := by simp [hk]
  exact ⟨v4, by rw [hg]; exact h4, hc 4 _ rfl⟩
instance : Rep Bt.Band where
  sz := 2
  bytes := 48
  rep := fun Φ x cs => ∃ v0 v1, cs = [v0, v1] ∧ (True) ∧ RepSl Φ x.Lo v0 ∧ RepSl Φ x.Hi v1
  len := fun ⟨v0, v1, h, hw, h0, h1⟩ => by rw [h]; rfl
  mono := fun hl ⟨v0, v1, h, hw, h0, h1⟩ => ⟨v0, v1, h, hw, h0.mono hl, h1.mono hl⟩
  one := fun ⟨v0, v1, h, hw, h0, h1⟩ u hu => by
    rw [h] at hu
    simp only [List.mem_cons, List.not_mem_nil, or_false] at hu
    rcases hu with rfl | rfl <;> first | rfl | (exact RepSl.oneCell (by assumption))
instance : Rep Bt.Link where
  sz := 18
  bytes := 200
  rep := fun Φ x cs => ∃ v4 v5 v6, cs = [.string x.Name, .int .i64 x.Kind, .int .i64 x.From, .int .i64 x.To, v4, v5, v6, .int .i64 x.Positions, .int .i64 x.Speed, .int .i64 x.Leak, .int .i64 x.Crest, .int .i64 x.Num, .int .i64 x.Den, .int .i64 x.Prime, .int .i64 x.Break, .int .i64 x.BackNum, .int .i64 x.BackDen, .int .i64 x.Delay] ∧ (x.Name.size ≤ maxLen ∧ I64 x.Kind ∧ I64 x.From ∧ I64 x.To ∧ I64 x.Positions ∧ I64 x.Speed ∧ I64 x.Leak ∧ I64 x.Crest ∧ I64 x.Num ∧ I64 x.Den ∧ I64 x.Prime ∧ I64 x.Break ∧ I64 x.BackNum ∧ I64 x.BackDen ∧ I64 x.Delay) ∧ RepSl Φ x.Rate v4 ∧ RepSl Φ x.Band.Lo v5 ∧ RepSl Φ x.Band.Hi v6
  len := fun ⟨v4, v5, v6, h, hw, h4, h5, h6⟩ => by rw [h]; rfl
  mono := fun hl ⟨v4, v5, v6, h, hw, h4, h5, h6⟩ => ⟨v4, v5, v6, h, hw, h4.mono hl, h5.mono hl, h6.mono hl⟩
  one := fun ⟨v4, v5, v6, h, hw, h4, h5, h6⟩ u hu => by
    rw [h] at hu
    simp only [List.mem_cons, List.not_mem_nil, or_false] at hu
    rcases hu with rfl | rfl | rfl | rfl | rfl | rfl | rfl | rfl | rfl | rfl | rfl | rfl | rfl | rfl | rfl | rfl | rfl | rfl <;> first | rfl | (exact RepSl.oneCell (by assumption))
instance : Rep Bt.Town where
  sz := 7
  bytes := 64
  rep := fun _ x cs => cs = [.string x.Name, .int .i64 x.Place, .int .i64 x.Flood, .int .i64 x.Lead, .int .i64 x.People, .int .i64 x.Watch, .int .i64 x.Quorum] ∧ (x.Name.size ≤ maxLen ∧ I64 x.Place ∧ I64 x.Flood ∧ I64 x.Lead ∧ I64 x.People ∧ I64 x.Watch ∧ I64 x.Quorum)
  len := fun h => by rw [h.1]; rfl
  mono := fun _ h => h
  one := fun h u hu => by
    rw [h.1] at hu
    simp only [List.mem_cons, List.not_mem_nil, or_false] at hu
    rcases hu with rfl | rfl | rfl | rfl | rfl | rfl | rfl <;> rfl
instance : RepE Bt.Town where
  cells := fun x => [.string x.Name, .int .i64 x.Place, .int .i64 x.Flood, .int .i64 x.Lead, .int .i64 x.People, .int .i64 x.Watch, .int .i64 x.Quorum]
  wf := fun x => x.Name.size ≤ maxLen ∧ I64 x.Place ∧ I64 x.Flood ∧ I64 x.Lead ∧ I64 x.People ∧ I64 x.Watch ∧ I64 x.Quorum
  iff := Iff.rfl
instance : Rep Bt.Gauge where
  sz := 5
  bytes := 48
  rep := fun _ x cs => cs = [.string x.Name, .int .i64 x.Kind, .int .i64 x.Target, .int .i64 x.Err, .int .i64 x.Drift] ∧ (x.Name.size ≤ maxLen ∧ I64 x.Kind ∧ I64 x.Target ∧ I64 x.Err ∧ I64 x.Drift)
  len := fun h => by rw [h.1]; rfl
  mono := fun _ h => h
  one := fun h u hu => by
    rw [h.1] at hu
    simp only [List.mem_cons, List.not_mem_nil, or_false] at hu
    rcases hu with rfl | rfl | rfl | rfl | rfl <;> rfl
instance : RepE Bt.Gauge where
  cells := fun x => [.string x.Name, .int .i64 x.Kind, .int .i64 x.Target, .int .i64 x.Err, .int .i64 x.Drift]
  wf := fun x => x.Name.size ≤ maxLen ∧ I64 x.Kind ∧ I64 x.Target ∧ I64 x.Err ∧ I64 x.Drift
  iff := Iff.rfl
instance : Rep Bt.Road where
  sz := 7
  bytes := 64
  rep := fun _ x cs => cs = [.string x.Name, .int .i64 x.From, .int .i64 x.To, .int .i64 x.Hours, .int .i64 x.Flow, .int .i64 x.By, .int .i64 x.Limit] ∧ (x.Name.size ≤ maxLen ∧ I64 x.From ∧ I64 x.To ∧ I64 x.Hours ∧ I64 x.Flow ∧ I64 x.By ∧ I64 x.Limit)
  len := fun h => by rw [h.1]; rfl
  mono := fun _ h => h
  one := fun h u hu => by
    rw [h.1] at hu
    simp only [List.mem_cons, List.not_mem_nil, or_false] at hu
    rcases hu with rfl | rfl | rfl | rfl | rfl | rfl | rfl <;> rfl
instance : RepE Bt.Road where
  cells := fun x => [.string x.Name, .int .i64 x.From, .int .i64 x.To, .int .i64 x.Hours, .int .i64 x.Flow, .int .i64 x.By, .int .i64 x.Limit]
  wf := fun x => x.Name.size ≤ maxLen ∧ I64 x.From ∧ I64 x.To ∧ I64 x.Hours ∧ I64 x.Flow ∧ I64 x.By ∧ I64 x.Limit
  iff := Iff.rfl
instance : Rep Bt.Shelter where
  sz := 2
  bytes := 24
  rep := fun _ x cs => cs = [.string x.Name, .int .i64 x.Room] ∧ (x.Name.size ≤ maxLen ∧ I64 x.Room)
  len := fun h => by rw [h.1]; rfl
  mono := fun _ h => h
  one := fun h u hu => by
    rw [h.1] at hu
    simp only [List.mem_cons, List.not_mem_nil, or_false] at hu
    rcases hu with rfl | rfl <;> rfl
instance : RepE Bt.Shelter where
  cells := fun x => [.string x.Name, .int .i64 x.Room]
  wf := fun x => x.Name.size ≤ maxLen ∧ I64 x.Room
  iff := Iff.rfl
instance : Rep Bt.Basin where
  sz := 11
  bytes := 224
  rep := fun Φ x cs => ∃ v1 v3 v4 v5 v6 v7 v8 v9, cs = [.string x.Name, v1, .int .i64 x.Cells, v3, v4, v5, v6, v7, v8, v9, .int .i64 x.Err] ∧ (x.Name.size ≤ maxLen ∧ I64 x.Cells ∧ I64 x.Err) ∧ RepSl Φ x.Owners v1 ∧ RepSl Φ x.Places v3 ∧ RepSl Φ x.Links v4 ∧ RepSl Φ x.Towns v5 ∧ RepSl Φ x.Gauges v6 ∧ RepSl Φ x.Roads v7 ∧ RepSl Φ x.Shelters v8 ∧ RepSl Φ x.Room v9
  len := fun ⟨v1, v3, v4, v5, v6, v7, v8, v9, h, hw, h1, h3, h4, h5, h6, h7, h8, h9⟩ => by rw [h]; rfl
  mono := fun hl ⟨v1, v3, v4, v5, v6, v7, v8, v9, h, hw, h1, h3, h4, h5, h6, h7, h8, h9⟩ => ⟨v1, v3, v4, v5, v6, v7, v8, v9, h, hw, h1.mono hl, h3.mono hl, h4.mono hl, h5.mono hl, h6.mono hl, h7.mono hl, h8.mono hl, h9.mono hl⟩
  one := fun ⟨v1, v3, v4, v5, v6, v7, v8, v9, h, hw, h1, h3, h4, h5, h6, h7, h8, h9⟩ u hu => by
    rw [h] at hu
    simp only [List.mem_cons, List.not_mem_nil, or_false] at hu
    rcases hu with rfl | rfl | rfl | rfl | rfl | rfl | rfl | rfl | rfl | rfl | rfl <;> first | rfl | (exact RepSl.oneCell (by assumption))
instance : Rep Bt.Load where
  sz := 3
  bytes := 40
  rep := fun Φ x cs => ∃ v2, cs = [.int .i64 x.At, .int .i64 x.To, v2] ∧ (I64 x.At ∧ I64 x.To) ∧ RepSl Φ x.Part v2
  len := fun ⟨v2, h, hw, h2⟩ => by rw [h]; rfl
  mono := fun hl ⟨v2, h, hw, h2⟩ => ⟨v2, h, hw, h2.mono hl⟩
  one := fun ⟨v2, h, hw, h2⟩ u hu => by
    rw [h] at hu
    simp only [List.mem_cons, List.not_mem_nil, or_false] at hu
    rcases hu with rfl | rfl | rfl <;> first | rfl | (exact RepSl.oneCell (by assumption))
instance : Rep Bt.Gate where
  sz := 4
  bytes := 24
  rep := fun _ x cs => cs = [.int .i64 x.Pos, .int .i64 x.Target, .bool x.Stuck, .bool x.Open] ∧ (I64 x.Pos ∧ I64 x.Target)
  len := fun h => by rw [h.1]; rfl
  mono := fun _ h => h
  one := fun h u hu => by
    rw [h.1] at hu
    simp only [List.mem_cons, List.not_mem_nil, or_false] at hu
    rcases hu with rfl | rfl | rfl | rfl <;> rfl
instance : RepE Bt.Gate where
  cells := fun x => [.int .i64 x.Pos, .int .i64 x.Target, .bool x.Stuck, .bool x.Open]
  wf := fun x => I64 x.Pos ∧ I64 x.Target
  iff := Iff.rfl
instance : Rep Bt.State where
  sz := 7
  bytes := 152
  rep := fun Φ x cs => ∃ v1 v2 v3 v4 v5 v6, cs = [.int .i64 x.Hour, v1, v2, v3, v4, v5, v6] ∧ (I64 x.Hour) ∧ RepSl Φ x.Own v1 ∧ RepSl Φ x.Rem v2 ∧ RepSl Φ x.Queue v3 ∧ RepSl Φ x.Gates v4 ∧ RepSl Φ x.In v5 ∧ RepSl Φ x.Out v6
  len := fun ⟨v1, v2, v3, v4, v5, v6, h, hw, h1, h2, h3, h4, h5, h6⟩ => by rw [h]; rfl
  mono := fun hl ⟨v1, v2, v3, v4, v5, v6, h, hw, h1, h2, h3, h4, h5, h6⟩ => ⟨v1, v2, v3, v4, v5, v6, h, hw, h1.mono hl, h2.mono hl, h3.mono hl, h4.mono hl, h5.mono hl, h6.mono hl⟩
  one := fun ⟨v1, v2, v3, v4, v5, v6, h, hw, h1, h2, h3, h4, h5, h6⟩ u hu => by
    rw [h] at hu
    simp only [List.mem_cons, List.not_mem_nil, or_false] at hu
    rcases hu with rfl | rfl | rfl | rfl | rfl | rfl | rfl <;> first | rfl | (exact RepSl.oneCell (by assumption))
instance : Rep Bt.Span where
  sz := 2
  bytes := 16
  rep := fun _ x cs => cs = [.int .i64 x.Lo, .int .i64 x.Hi] ∧ (I64 x.Lo ∧ I64 x.Hi)
  len := fun h => by rw [h.1]; rfl
  mono := fun _ h => h
  one := fun h u hu => by
    rw [h.1] at hu
    simp only [List.mem_cons, List.not_mem_nil, or_false] at hu
    rcases hu with rfl | rfl <;> rfl
instance : RepE Bt.Span where
  cells := fun x => [.int .i64 x.Lo, .int .i64 x.Hi]
  wf := fun x => I64 x.Lo ∧ I64 x.Hi
  iff := Iff.rfl
theorem even51 : EvenE Bt.Span := fun _ => rfl
instance : Rep Bt.Sum where
  sz := 4
  bytes := 32
  rep := fun _ x cs => cs = [.int .i64 x.At, .int .i64 x.To, .int .i64 x.Vol.Lo, .int .i64 x.Vol.Hi] ∧ (I64 x.At ∧ I64 x.To ∧ I64 x.Vol.Lo ∧ I64 x.Vol.Hi)
  len := fun h => by rw [h.1]; rfl
  mono := fun _ h => h
  one := fun h u hu => by
    rw [h.1] at hu
    simp only [List.mem_cons, List.not_mem_nil, or_false] at hu
    rcases hu with rfl | rfl | rfl | rfl <;> rfl
instance : RepE Bt.Sum where
  cells := fun x => [.int .i64 x.At, .int .i64 x.To, .int .i64 x.Vol.Lo, .int .i64 x.Vol.Hi]
  wf := fun x => I64 x.At ∧ I64 x.To ∧ I64 x.Vol.Lo ∧ I64 x.Vol.Hi
  iff := Iff.rfl
theorem even98 : EvenE Bt.Sum := fun _ => rfl
instance : Rep Bt.Known where
  sz := 5
  bytes := 40
  rep := fun _ x cs => cs = [.int .i64 x.Pos.Lo, .int .i64 x.Pos.Hi, .int .i64 x.Target, .int .i64 x.Open.Lo, .int .i64 x.Open.Hi] ∧ (I64 x.Pos.Lo ∧ I64 x.Pos.Hi ∧ I64 x.Target ∧ I64 x.Open.Lo ∧ I64 x.Open.Hi)
  len := fun h => by rw [h.1]; rfl
  mono := fun _ h => h
  one := fun h u hu => by
    rw [h.1] at hu
    simp only [List.mem_cons, List.not_mem_nil, or_false] at hu
    rcases hu with rfl | rfl | rfl | rfl | rfl <;> rfl
instance : RepE Bt.Known where
  cells := fun x => [.int .i64 x.Pos.Lo, .int .i64 x.Pos.Hi, .int .i64 x.Target, .int .i64 x.Open.Lo, .int .i64 x.Open.Hi]
  wf := fun x => I64 x.Pos.Lo ∧ I64 x.Pos.Hi ∧ I64 x.Target ∧ I64 x.Open.Lo ∧ I64 x.Open.Hi
  iff := Iff.rfl
theorem even101 : EvenE Bt.Known := fun _ => rfl
instance : Rep Bt.Hull where
  sz := 4
  bytes := 80
  rep := fun Φ x cs => ∃ v1 v2 v3, cs = [.int .i64 x.Hour, v1, v2, v3] ∧ (I64 x.Hour) ∧ RepSl Φ x.Vol v1 ∧ RepSl Φ x.Queue v2 ∧ RepSl Φ x.Links v3
  len := fun ⟨v1, v2, v3, h, hw, h1, h2, h3⟩ => by rw [h]; rfl
  mono := fun hl ⟨v1, v2, v3, h, hw, h1, h2, h3⟩ => ⟨v1, v2, v3, h, hw, h1.mono hl, h2.mono hl, h3.mono hl⟩
  one := fun ⟨v1, v2, v3, h, hw, h1, h2, h3⟩ u hu => by
    rw [h] at hu
    simp only [List.mem_cons, List.not_mem_nil, or_false] at hu
    rcases hu with rfl | rfl | rfl | rfl <;> first | rfl | (exact RepSl.oneCell (by assumption))
instance : Rep Bt.Look where
  sz := 3
  bytes := 24
  rep := fun _ x cs => cs = [.int .i64 x.Gauge, .int .i64 x.Less, .int .i64 x.More] ∧ (I64 x.Gauge ∧ I64 x.Less ∧ I64 x.More)
  len := fun h => by rw [h.1]; rfl
  mono := fun _ h => h
  one := fun h u hu => by
    rw [h.1] at hu
    simp only [List.mem_cons, List.not_mem_nil, or_false] at hu
    rcases hu with rfl | rfl | rfl <;> rfl
instance : RepE Bt.Look where
  cells := fun x => [.int .i64 x.Gauge, .int .i64 x.Less, .int .i64 x.More]
  wf := fun x => I64 x.Gauge ∧ I64 x.Less ∧ I64 x.More
  iff := Iff.rfl
instance : Rep Bt.Reading where
  sz := 4
  bytes := 32
  rep := fun _ x cs => cs = [.int .i64 x.Gauge, .int .i64 x.Hour, .int .i64 x.Value.Lo, .int .i64 x.Value.Hi] ∧ (I64 x.Gauge ∧ I64 x.Hour ∧ I64 x.Value.Lo ∧ I64 x.Value.Hi)
  len := fun h => by rw [h.1]; rfl
  mono := fun _ h => h
  one := fun h u hu => by
    rw [h.1] at hu
    simp only [List.mem_cons, List.not_mem_nil, or_false] at hu
    rcases hu with rfl | rfl | rfl | rfl <;> rfl
instance : RepE Bt.Reading where
  cells := fun x => [.int .i64 x.Gauge, .int .i64 x.Hour, .int .i64 x.Value.Lo, .int .i64 x.Value.Hi]
  wf := fun x => I64 x.Gauge ∧ I64 x.Hour ∧ I64 x.Value.Lo ∧ I64 x.Value.Hi
  iff := Iff.rfl
theorem even53 : EvenE Bt.Reading := fun _ => rfl
instance : Rep Bt.Gram where
  sz := 5
  bytes := 48
  rep := fun _ x cs => cs = [.int .i64 x.Gauge, .int .i64 x.Seq, .int .i64 x.Clock, .int .i64 x.Value, .string x.Tag] ∧ (I64 x.Gauge ∧ I64 x.Seq ∧ I64 x.Clock ∧ I64 x.Value ∧ x.Tag.size ≤ maxLen)
  len := fun h => by rw [h.1]; rfl
  mono := fun _ h => h
  one := fun h u hu => by
    rw [h.1] at hu
    simp only [List.mem_cons, List.not_mem_nil, or_false] at hu
    rcases hu with rfl | rfl | rfl | rfl | rfl <;> rfl
instance : RepE Bt.Gram where
  cells := fun x => [.int .i64 x.Gauge, .int .i64 x.Seq, .int .i64 x.Clock, .int .i64 x.Value, .string x.Tag]
  wf := fun x => I64 x.Gauge ∧ I64 x.Seq ∧ I64 x.Clock ∧ I64 x.Value ∧ x.Tag.size ≤ maxLen
  iff := Iff.rfl
theorem even57 : EvenE Bt.Gram := fun _ => rfl
end Go.Proofs.YtblfeidlnhdekaaGreat
