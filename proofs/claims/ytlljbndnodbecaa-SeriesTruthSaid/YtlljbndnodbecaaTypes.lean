/- How the data lie in memory, printed by typegen.py. Conditions: those of each theorem. -/
import Derived.Test.YtlljbndnodbecaaCore2
import Derived.Test.YtlljbndnodbecaaData
namespace Go.Proofs.Ytlljbndnodbecaa
open Go Go.K Go.RowKit
instance : Rep Bt.Gram where
  sz := 5
  bytes := 48
  rep := fun _ x cs => cs = [.int .i64 x.Gauge, .int .i64 x.Seq, .int .i64 x.Clock, .int .i64 x.Value, .string x.Tag] ∧ (I64 x.Gauge ∧ I64 x.Seq ∧ I64 x.Clock ∧ I64 x.Value ∧ x.Tag.size ≤ maxLen)
  len := fun h => by rw [h.1]; rfl
  mono := fun _ h => h
  one := fun h u hu => by
    rw [h.1] at hu
    simp only [List.mem_cons, List.not_mem_nil, or_false] at hu
    rcases hu with rfl | rfl | rfl | rfl | rfl <;> rfl
instance : RepE Bt.Gram where
  cells := fun x => [.int .i64 x.Gauge, .int .i64 x.Seq, .int .i64 x.Clock, .int .i64 x.Value, .string x.Tag]
  wf := fun x => I64 x.Gauge ∧ I64 x.Seq ∧ I64 x.Clock ∧ I64 x.Value ∧ x.Tag.size ≤ maxLen
  iff := Iff.rfl
theorem even29 : EvenE Bt.Gram := fun _ => rfl
instance : Rep Bt.Point where
  sz := 2
  bytes := 16
  rep := fun _ x cs => cs = [.int .i64 x.X, .int .i64 x.Y] ∧ (I64 x.X ∧ I64 x.Y)
  len := fun h => by rw [h.1]; rfl
  mono := fun _ h => h
  one := fun h u hu => by
    rw [h.1] at hu
    simp only [List.mem_cons, List.not_mem_nil, or_false] at hu
    rcases hu with rfl | rfl <;> rfl
instance : RepE Bt.Point where
  cells := fun x => [.int .i64 x.X, .int .i64 x.Y]
  wf := fun x => I64 x.X ∧ I64 x.Y
  iff := Iff.rfl
theorem even157 : EvenE Bt.Point := fun _ => rfl
instance : Rep Bt.Cell where
  sz := 2
  bytes := 16
  rep := fun _ x cs => cs = [.int .i64 x.Index, .int .i64 x.Area] ∧ (I64 x.Index ∧ I64 x.Area)
  len := fun h => by rw [h.1]; rfl
  mono := fun _ h => h
  one := fun h u hu => by
    rw [h.1] at hu
    simp only [List.mem_cons, List.not_mem_nil, or_false] at hu
    rcases hu with rfl | rfl <;> rfl
instance : RepE Bt.Cell where
  cells := fun x => [.int .i64 x.Index, .int .i64 x.Area]
  wf := fun x => I64 x.Index ∧ I64 x.Area
  iff := Iff.rfl
theorem even159 : EvenE Bt.Cell := fun _ => rfl
instance : Rep Bt.Place where
  sz := 12
  bytes := 152
  rep := fun Φ x cs => ∃ v4 v5 v11, cs = [.string x.Name, .int .i64 x.Kind, .int .i64 x.Office, .int .i64 x.Cap, v4, v5, .int .i64 x.Num, .int .i64 x.Den, .int .i64 x.Down, .int .i64 x.Delay, .int .i64 x.Floor, v11] ∧ (x.Name.size ≤ maxLen ∧ I64 x.Kind ∧ I64 x.Office ∧ I64 x.Cap ∧ I64 x.Num ∧ I64 x.Den ∧ I64 x.Down ∧ I64 x.Delay ∧ I64 x.Floor) ∧ RepSl Φ x.Level v4 ∧ RepSl Φ x.Start v5 ∧ RepSl Φ x.Rain v11
  len := fun ⟨v4, v5, v11, h, hw, h4, h5, h11⟩ => by rw [h]; rfl
  mono := fun hl ⟨v4, v5, v11, h, hw, h4, h5, h11⟩ => ⟨v4, v5, v11, h, hw, h4.mono hl, h5.mono hl, h11.mono hl⟩
  one := fun ⟨v4, v5, v11, h, hw, h4, h5, h11⟩ u hu => by
    rw [h] at hu
    simp only [List.mem_cons, List.not_mem_nil, or_false] at hu
    rcases hu with rfl | rfl | rfl | rfl | rfl | rfl | rfl | rfl | rfl | rfl | rfl | rfl <;> first | rfl | (exact RepSl.oneCell (by assumption))
theorem leaf144_0 {Φ : Hp} {x : Bt.Place} {cs : List Value} (h : Rep.rep Φ x cs) : cs[0]? = some (.string x.Name) := by obtain ⟨v4, v5, v11, h, hw, h4, h5, h11⟩ := h; rw [h]; rfl
theorem leaf144_1 {Φ : Hp} {x : Bt.Place} {cs : List Value} (h : Rep.rep Φ x cs) : cs[1]? = some (.int .i64 x.Kind) := by obtain ⟨v4, v5, v11, h, hw, h4, h5, h11⟩ := h; rw [h]; rfl
theorem leaf144_2 {Φ : Hp} {x : Bt.Place} {cs : List Value} (h : Rep.rep Φ x cs) : cs[2]? = some (.int .i64 x.Office) := by obtain ⟨v4, v5, v11, h, hw, h4, h5, h11⟩ := h; rw [h]; rfl
theorem leaf144_3 {Φ : Hp} {x : Bt.Place} {cs : List Value} (h : Rep.rep Φ x cs) : cs[3]? = some (.int .i64 x.Cap) := by obtain ⟨v4, v5, v11, h, hw, h4, h5, h11⟩ := h; rw [h]; rfl
theorem leaf144_4 {Φ : Hp} {xs : List Bt.Place} {v : Value} (h : RepSl Φ xs v) {k : Nat} (hk : k < xs.length) : ∃ sv, RepSl Φ (xs.getD k default).Level sv ∧ PCell Φ (Value.at v (k * 12 + 4)) sv := by
  obtain ⟨cs, ⟨v4, v5, v11, rfl, hw, h4, h5, h11⟩, hc⟩ := h.at_ k hk
  have hg : xs.getD k default = xs[k] := by simp [List.getD_eq_getElem?_getD, hk]
  exact ⟨v4, by rw [hg]; exact h4, hc 4 _ rfl⟩
theorem leaf144_5 {Φ : Hp} {xs : List Bt.Place} {v : Value} (h : RepSl Φ xs v) {k : Nat} (hk : k < xs.length) : ∃ sv, RepSl Φ (xs.getD k default).Start sv ∧ PCell Φ (Value.at v (k * 12 + 5)) sv := by
  obtain ⟨cs, ⟨v4, v5, v11, rfl, hw, h4, h5, h11⟩, hc⟩ := h.at_ k hk
  have hg : xs.getD k default = xs[k] := by simp [List.getD_eq_getElem?_getD, hk]
  exact ⟨v5, by rw [hg]; exact h5, hc 5 _ rfl⟩
theorem leaf144_6 {Φ : Hp} {x : Bt.Place} {cs : List Value} (h : Rep.rep Φ x cs) : cs[6]? = some (.int .i64 x.Num) := by obtain ⟨v4, v5, v11, h, hw, h4, h5, h11⟩ := h; rw [h]; rfl
theorem leaf144_7 {Φ : Hp} {x : Bt.Place} {cs : List Value} (h : Rep.rep Φ x cs) : cs[7]? = some (.int .i64 x.Den) := by obtain ⟨v4, v5, v11, h, hw, h4, h5, h11⟩ := h; rw [h]; rfl
theorem leaf144_8 {Φ : Hp} {x : Bt.Place} {cs : List Value} (h : Rep.rep Φ x cs) : cs[8]? = some (.int .i64 x.Down) := by obtain ⟨v4, v5, v11, h, hw, h4, h5, h11⟩ := h; rw [h]; rfl
theorem leaf144_9 {Φ : Hp} {x : Bt.Place} {cs : List Value} (h : Rep.rep Φ x cs) : cs[9]? = some (.int .i64 x.Delay) := by obtain ⟨v4, v5, v11, h, hw, h4, h5, h11⟩ := h; rw [h]; rfl
theorem leaf144_10 {Φ : Hp} {x : Bt.Place} {cs : List Value} (h : Rep.rep Φ x cs) : cs[10]? = some (.int .i64 x.Floor) := by obtain ⟨v4, v5, v11, h, hw, h4, h5, h11⟩ := h; rw [h]; rfl
theorem leaf144_11 {Φ : Hp} {xs : List Bt.Place} {v : Value} (h : RepSl Φ xs v) {k : Nat} (hk : k < xs.length) : ∃ sv, RepSl Φ (xs.getD k default).Rain sv ∧ PCell Φ (Value.at v (k * 12 + 11)) sv := by
  obtain ⟨cs, ⟨v4, v5, v11, rfl, hw, h4, h5, h11⟩, hc⟩ := h.at_ k hk
  have hg : xs.getD k default = xs[k] := by simp [List.getD_eq_getElem?_getD, hk]
  exact ⟨v11, by rw [hg]; exact h11, hc 11 _ rfl⟩
instance : Rep Bt.Band where
  sz := 2
  bytes := 48
  rep := fun Φ x cs => ∃ v0 v1, cs = [v0, v1] ∧ (True) ∧ RepSl Φ x.Lo v0 ∧ RepSl Φ x.Hi v1
  len := fun ⟨v0, v1, h, hw, h0, h1⟩ => by rw [h]; rfl
  mono := fun hl ⟨v0, v1, h, hw, h0, h1⟩ => ⟨v0, v1, h, hw, h0.mono hl, h1.mono hl⟩
  one := fun ⟨v0, v1, h, hw, h0, h1⟩ u hu => by
    rw [h] at hu
    simp only [List.mem_cons, List.not_mem_nil, or_false] at hu
    rcases hu with rfl | rfl <;> first | rfl | (exact RepSl.oneCell (by assumption))
theorem leaf146_0 {Φ : Hp} {xs : List Bt.Band} {v : Value} (h : RepSl Φ xs v) {k : Nat} (hk : k < xs.length) : ∃ sv, RepSl Φ (xs.getD k default).Lo sv ∧ PCell Φ (Value.at v (k * 2 + 0)) sv := by
  obtain ⟨cs, ⟨v0, v1, rfl, hw, h0, h1⟩, hc⟩ := h.at_ k hk
  have hg : xs.getD k default = xs[k] := by simp [List.getD_eq_getElem?_getD, hk]
  exact ⟨v0, by rw [hg]; exact h0, hc 0 _ rfl⟩
theorem leaf146_1 {Φ : Hp} {xs : List Bt.Band} {v : Value} (h : RepSl Φ xs v) {k : Nat} (hk : k < xs.length) : ∃ sv, RepSl Φ (xs.getD k default).Hi sv ∧ PCell Φ (Value.at v (k * 2 + 1)) sv := by
  obtain ⟨cs, ⟨v0, v1, rfl, hw, h0, h1⟩, hc⟩ := h.at_ k hk
  have hg : xs.getD k default = xs[k] := by simp [List.getD_eq_getElem?_getD, hk]
  exact ⟨v1, by rw [hg]; exact h1, hc 1 _ rfl⟩
instance : Rep Bt.Link where
  sz := 18
  bytes := 200
  rep := fun Φ x cs => ∃ v4 v5 v6, cs = [.string x.Name, .int .i64 x.Kind, .int .i64 x.From, .int .i64 x.To, v4, v5, v6, .int .i64 x.Positions, .int .i64 x.Speed, .int .i64 x.Leak, .int .i64 x.Crest, .int .i64 x.Num, .int .i64 x.Den, .int .i64 x.Prime, .int .i64 x.Break, .int .i64 x.BackNum, .int .i64 x.BackDen, .int .i64 x.Delay] ∧ (x.Name.size ≤ maxLen ∧ I64 x.Kind ∧ I64 x.From ∧ I64 x.To ∧ I64 x.Positions ∧ I64 x.Speed ∧ I64 x.Leak ∧ I64 x.Crest ∧ I64 x.Num ∧ I64 x.Den ∧ I64 x.Prime ∧ I64 x.Break ∧ I64 x.BackNum ∧ I64 x.BackDen ∧ I64 x.Delay) ∧ RepSl Φ x.Rate v4 ∧ RepSl Φ x.Band.Lo v5 ∧ RepSl Φ x.Band.Hi v6
  len := fun ⟨v4, v5, v6, h, hw, h4, h5, h6⟩ => by rw [h]; rfl
  mono := fun hl ⟨v4, v5, v6, h, hw, h4, h5, h6⟩ => ⟨v4, v5, v6, h, hw, h4.mono hl, h5.mono hl, h6.mono hl⟩
  one := fun ⟨v4, v5, v6, h, hw, h4, h5, h6⟩ u hu => by
    rw [h] at hu
    simp only [List.mem_cons, List.not_mem_nil, or_false] at hu
    rcases hu with rfl | rfl | rfl | rfl | rfl | rfl | rfl | rfl | rfl | rfl | rfl | rfl | rfl | rfl | rfl | rfl | rfl | rfl <;> first | rfl | (exact RepSl.oneCell (by assumption))
theorem leaf148_0 {Φ : Hp} {x : Bt.Link} {cs : List Value} (h : Rep.rep Φ x cs) : cs[0]? = some (.string x.Name) := by obtain ⟨v4, v5, v6, h, hw, h4, h5, h6⟩ := h; rw [h]; rfl
theorem leaf148_1 {Φ : Hp} {x : Bt.Link} {cs : List Value} (h : Rep.rep Φ x cs) : cs[1]? = some (.int .i64 x.Kind) := by obtain ⟨v4, v5, v6, h, hw, h4, h5, h6⟩ := h; rw [h]; rfl
theorem leaf148_2 {Φ : Hp} {x : Bt.Link} {cs : List Value} (h : Rep.rep Φ x cs) : cs[2]? = some (.int .i64 x.From) := by obtain ⟨v4, v5, v6, h, hw, h4, h5, h6⟩ := h; rw [h]; rfl
theorem leaf148_3 {Φ : Hp} {x : Bt.Link} {cs : List Value} (h : Rep.rep Φ x cs) : cs[3]? = some (.int .i64 x.To) := by obtain ⟨v4, v5, v6, h, hw, h4, h5, h6⟩ := h; rw [h]; rfl
theorem leaf148_4 {Φ : Hp} {xs : List Bt.Link} {v : Value} (h : RepSl Φ xs v) {k : Nat} (hk : k < xs.length) : ∃ sv, RepSl Φ (xs.getD k default).Rate sv ∧ PCell Φ (Value.at v (k * 18 + 4)) sv := by
  obtain ⟨cs, ⟨v4, v5, v6, rfl, hw, h4, h5, h6⟩, hc⟩ := h.at_ k hk
  have hg : xs.getD k default = xs[k] := by simp [List.getD_eq_getElem?_getD, hk]
  exact ⟨v4, by rw [hg]; exact h4, hc 4 _ rfl⟩
theorem leaf148_5 {Φ : Hp} {xs : List Bt.Link} {v : Value} (h : RepSl Φ xs v) {k : Nat} (hk : k < xs.length) : ∃ sv, RepSl Φ (xs.getD k default).Band.Lo sv ∧ PCell Φ (Value.at v (k * 18 + 5)) sv := by
  obtain ⟨cs, ⟨v4, v5, v6, rfl, hw, h4, h5, h6⟩, hc⟩ := h.at_ k hk
  have hg : xs.getD k default = xs[k] := by simp [List.getD_eq_getElem?_getD, hk]
  exact ⟨v5, by rw [hg]; exact h5, hc 5 _ rfl⟩
theorem leaf148_6 {Φ : Hp} {xs : List Bt.Link} {v : Value} (h : RepSl Φ xs v) {k : Nat} (hk : k < xs.length) : ∃ sv, RepSl Φ (xs.getD k default).Band.Hi sv ∧ PCell Φ (Value.at v (k * 18 + 6)) sv := by
  obtain ⟨cs, ⟨v4, v5, v6, rfl, hw, h4, h5, h6⟩, hc⟩ := h.at_ k hk
  have hg : xs.getD k default = xs[k] := by simp [List.getD_eq_getElem?_getD, hk]
  exact ⟨v6, by rw [hg]; exact h6, hc 6 _ rfl⟩
theorem leaf148_7 {Φ : Hp} {x : Bt.Link} {cs : List Value} (h : Rep.rep Φ x cs) : cs[7]? = some (.int .i64 x.Positions) := by obtain ⟨v4, v5, v6, h, hw, h4, h5, h6⟩ := h; rw [h]; rfl
theorem leaf148_8 {Φ : Hp} {x : Bt.Link} {cs : List Value} (h : Rep.rep Φ x cs) : cs[8]? = some (.int .i64 x.Speed) := by obtain ⟨v4, v5, v6, h, hw, h4, h5, h6⟩ := h; rw [h]; rfl
theorem leaf148_9 {Φ : Hp} {x : Bt.Link} {cs : List Value} (h : Rep.rep Φ x cs) : cs[9]? = some (.int .i64 x.Leak) := by obtain ⟨v4, v5, v6, h, hw, h4, h5, h6⟩ := h; rw [h]; rfl
theorem leaf148_10 {Φ : Hp} {x : Bt.Link} {cs : List Value} (h : Rep.rep Φ x cs) : cs[10]? = some (.int .i64 x.Crest) := by obtain ⟨v4, v5, v6, h, hw, h4, h5, h6⟩ := h; rw [h]; rfl
theorem leaf148_11 {Φ : Hp} {x : Bt.Link} {cs : List Value} (h : Rep.rep Φ x cs) : cs[11]? = some (.int .i64 x.Num) := by obtain ⟨v4, v5, v6, h, hw, h4, h5, h6⟩ := h; rw [h]; rfl
theorem leaf148_12 {Φ : Hp} {x : Bt.Link} {cs : List Value} (h : Rep.rep Φ x cs) : cs[12]? = some (.int .i64 x.Den) := by obtain ⟨v4, v5, v6, h, hw, h4, h5, h6⟩ := h; rw [h]; rfl
theorem leaf148_13 {Φ : Hp} {x : Bt.Link} {cs : List Value} (h : Rep.rep Φ x cs) : cs[13]? = some (.int .i64 x.Prime) := by obtain ⟨v4, v5, v6, h, hw, h4, h5, h6⟩ := h; rw [h]; rfl
theorem leaf148_14 {Φ : Hp} {x : Bt.Link} {cs : List Value} (h : Rep.rep Φ x cs) : cs[14]? = some (.int .i64 x.Break) := by obtain ⟨v4, v5, v6, h, hw, h4, h5, h6⟩ := h; rw [h]; rfl
theorem leaf148_15 {Φ : Hp} {x : Bt.Link} {cs : List Value} (h : Rep.rep Φ x cs) : cs[15]? = some (.int .i64 x.BackNum) := by obtain ⟨v4, v5, v6, h, hw, h4, h5, h6⟩ := h; rw [h]; rfl
theorem leaf148_16 {Φ : Hp} {x : Bt.Link} {cs : List Value} (h : Rep.rep Φ x cs) : cs[16]? = some (.int .i64 x.BackDen) := by obtain ⟨v4, v5, v6, h, hw, h4, h5, h6⟩ := h; rw [h]; rfl
theorem leaf148_17 {Φ : Hp} {x : Bt.Link} {cs : List Value} (h : Rep.rep Φ x cs) : cs[17]? = some (.int .i64 x.Delay) := by obtain ⟨v4, v5, v6, h, hw, h4, h5, h6⟩ := h; rw [h]; rfl
instance : Rep Bt.Town where
  sz := 7
  bytes := 64
  rep := fun _ x cs => cs = [.string x.Name, .int .i64 x.Place, .int .i64 x.Flood, .int .i64 x.Lead, .int .i64 x.People, .int .i64 x.Watch, .int .i64 x.Quorum] ∧ (x.Name.size ≤ maxLen ∧ I64 x.Place ∧ I64 x.Flood ∧ I64 x.Lead ∧ I64 x.People ∧ I64 x.Watch ∧ I64 x.Quorum)
  len := fun h => by rw [h.1]; rfl
  mono := fun _ h => h
  one := fun h u hu => by
    rw [h.1] at hu
    simp only [List.mem_cons, List.not_mem_nil, or_false] at hu
    rcases hu with rfl | rfl | rfl | rfl | rfl | rfl | rfl <;> rfl
instance : RepE Bt.Town where
  cells := fun x => [.string x.Name, .int .i64 x.Place, .int .i64 x.Flood, .int .i64 x.Lead, .int .i64 x.People, .int .i64 x.Watch, .int .i64 x.Quorum]
  wf := fun x => x.Name.size ≤ maxLen ∧ I64 x.Place ∧ I64 x.Flood ∧ I64 x.Lead ∧ I64 x.People ∧ I64 x.Watch ∧ I64 x.Quorum
  iff := Iff.rfl
theorem even150 : EvenE Bt.Town := fun _ => rfl
instance : Rep Bt.Gauge where
  sz := 5
  bytes := 48
  rep := fun _ x cs => cs = [.string x.Name, .int .i64 x.Kind, .int .i64 x.Target, .int .i64 x.Err, .int .i64 x.Drift] ∧ (x.Name.size ≤ maxLen ∧ I64 x.Kind ∧ I64 x.Target ∧ I64 x.Err ∧ I64 x.Drift)
  len := fun h => by rw [h.1]; rfl
  mono := fun _ h => h
  one := fun h u hu => by
    rw [h.1] at hu
    simp only [List.mem_cons, List.not_mem_nil, or_false] at hu
    rcases hu with rfl | rfl | rfl | rfl | rfl <;> rfl
instance : RepE Bt.Gauge where
  cells := fun x => [.string x.Name, .int .i64 x.Kind, .int .i64 x.Target, .int .i64 x.Err, .int .i64 x.Drift]
  wf := fun x => x.Name.size ≤ maxLen ∧ I64 x.Kind ∧ I64 x.Target ∧ I64 x.Err ∧ I64 x.Drift
  iff := Iff.rfl
theorem even63 : EvenE Bt.Gauge := fun _ => rfl
instance : Rep Bt.Road where
  sz := 7
  bytes := 64
  rep := fun _ x cs => cs = [.string x.Name, .int .i64 x.From, .int .i64 x.To, .int .i64 x.Hours, .int .i64 x.Flow, .int .i64 x.By, .int .i64 x.Limit] ∧ (x.Name.size ≤ maxLen ∧ I64 x.From ∧ I64 x.To ∧ I64 x.Hours ∧ I64 x.Flow ∧ I64 x.By ∧ I64 x.Limit)
  len := fun h => by rw [h.1]; rfl
  mono := fun _ h => h
  one := fun h u hu => by
    rw [h.1] at hu
    simp only [List.mem_cons, List.not_mem_nil, or_false] at hu
    rcases hu with rfl | rfl | rfl | rfl | rfl | rfl | rfl <;> rfl
instance : RepE Bt.Road where
  cells := fun x => [.string x.Name, .int .i64 x.From, .int .i64 x.To, .int .i64 x.Hours, .int .i64 x.Flow, .int .i64 x.By, .int .i64 x.Limit]
  wf := fun x => x.Name.size ≤ maxLen ∧ I64 x.From ∧ I64 x.To ∧ I64 x.Hours ∧ I64 x.Flow ∧ I64 x.By ∧ I64 x.Limit
  iff := Iff.rfl
theorem even152 : EvenE Bt.Road := fun _ => rfl
instance : Rep Bt.Shelter where
  sz := 2
  bytes := 24
  rep := fun _ x cs => cs = [.string x.Name, .int .i64 x.Room] ∧ (x.Name.size ≤ maxLen ∧ I64 x.Room)
  len := fun h => by rw [h.1]; rfl
  mono := fun _ h => h
  one := fun h u hu => by
    rw [h.1] at hu
    simp only [List.mem_cons, List.not_mem_nil, or_false] at hu
    rcases hu with rfl | rfl <;> rfl
instance : RepE Bt.Shelter where
  cells := fun x => [.string x.Name, .int .i64 x.Room]
  wf := fun x => x.Name.size ≤ maxLen ∧ I64 x.Room
  iff := Iff.rfl
theorem even154 : EvenE Bt.Shelter := fun _ => rfl
instance : Rep Bt.Basin where
  sz := 11
  bytes := 224
  rep := fun Φ x cs => ∃ v1 v3 v4 v5 v6 v7 v8 v9, cs = [.string x.Name, v1, .int .i64 x.Cells, v3, v4, v5, v6, v7, v8, v9, .int .i64 x.Err] ∧ (x.Name.size ≤ maxLen ∧ I64 x.Cells ∧ I64 x.Err) ∧ RepSl Φ x.Owners v1 ∧ RepSl Φ x.Places v3 ∧ RepSl Φ x.Links v4 ∧ RepSl Φ x.Towns v5 ∧ RepSl Φ x.Gauges v6 ∧ RepSl Φ x.Roads v7 ∧ RepSl Φ x.Shelters v8 ∧ RepSl Φ x.Room v9
  len := fun ⟨v1, v3, v4, v5, v6, v7, v8, v9, h, hw, h1, h3, h4, h5, h6, h7, h8, h9⟩ => by rw [h]; rfl
  mono := fun hl ⟨v1, v3, v4, v5, v6, v7, v8, v9, h, hw, h1, h3, h4, h5, h6, h7, h8, h9⟩ => ⟨v1, v3, v4, v5, v6, v7, v8, v9, h, hw, h1.mono hl, h3.mono hl, h4.mono hl, h5.mono hl, h6.mono hl, h7.mono hl, h8.mono hl, h9.mono hl⟩
  one := fun ⟨v1, v3, v4, v5, v6, v7, v8, v9, h, hw, h1, h3, h4, h5, h6, h7, h8, h9⟩ u hu => by
    rw [h] at hu
    simp only [List.mem_cons, List.not_mem_nil, or_false] at hu
    rcases hu with rfl | rfl | rfl | rfl | rfl | rfl | rfl | rfl | rfl | rfl | rfl <;> first | rfl | (exact RepSl.oneCell (by assumption))
theorem leaf41_0 {Φ : Hp} {x : Bt.Basin} {cs : List Value} (h : Rep.rep Φ x cs) : cs[0]? = some (.string x.Name) := by obtain ⟨v1, v3, v4, v5, v6, v7, v8, v9, h, hw, h1, h3, h4, h5, h6, h7, h8, h9⟩ := h; rw [h]; rfl
theorem leaf41_1 {Φ : Hp} {xs : List Bt.Basin} {v : Value} (h : RepSl Φ xs v) {k : Nat} (hk : k < xs.length) : ∃ sv, RepSl Φ (xs.getD k default).Owners sv ∧ PCell Φ (Value.at v (k * 11 + 1)) sv := by
  obtain ⟨cs, ⟨v1, v3, v4, v5, v6, v7, v8, v9, rfl, hw, h1, h3, h4, h5, h6, h7, h8, h9⟩, hc⟩ := h.at_ k hk
  have hg : xs.getD k default = xs[k] := by simp [List.getD_eq_getElem?_getD, hk]
  exact ⟨v1, by rw [hg]; exact h1, hc 1 _ rfl⟩
theorem leaf41_2 {Φ : Hp} {x : Bt.Basin} {cs : List Value} (h : Rep.rep Φ x cs) : cs[2]? = some (.int .i64 x.Cells) := by obtain ⟨v1, v3, v4, v5, v6, v7, v8, v9, h, hw, h1, h3, h4, h5, h6, h7, h8, h9⟩ := h; rw [h]; rfl
theorem leaf41_3 {Φ : Hp} {xs : List Bt.Basin} {v : Value} (h : RepSl Φ xs v) {k : Nat} (hk : k < xs.length) : ∃ sv, RepSl Φ (xs.getD k default).Places sv ∧ PCell Φ (Value.at v (k * 11 + 3)) sv := by
  obtain ⟨cs, ⟨v1, v3, v4, v5, v6, v7, v8, v9, rfl, hw, h1, h3, h4, h5, h6, h7, h8, h9⟩, hc⟩ := h.at_ k hk
  have hg : xs.getD k default = xs[k] := by simp [List.getD_eq_getElem?_getD, hk]
  exact ⟨v3, by rw [hg]; exact h3, hc 3 _ rfl⟩
theorem leaf41_4 {Φ : Hp} {xs : List Bt.Basin} {v : Value} (h : RepSl Φ xs v) {k : Nat} (hk : k < xs.length) : ∃ sv, RepSl Φ (xs.getD k default).Links sv ∧ PCell Φ (Value.at v (k * 11 + 4)) sv := by
  obtain ⟨cs, ⟨v1, v3, v4, v5, v6, v7, v8, v9, rfl, hw, h1, h3, h4, h5, h6, h7, h8, h9⟩, hc⟩ := h.at_ k hk
  have hg : xs.getD k default = xs[k] := by simp [List.getD_eq_getElem?_getD, hk]
  exact ⟨v4, by rw [hg]; exact h4, hc 4 _ rfl⟩
theorem leaf41_5 {Φ : Hp} {xs : List Bt.Basin} {v : Value} (h : RepSl Φ xs v) {k : Nat} (hk : k < xs.length) : ∃ sv, RepSl Φ (xs.getD k default).Towns sv ∧ PCell Φ (Value.at v (k * 11 + 5)) sv := by
  obtain ⟨cs, ⟨v1, v3, v4, v5, v6, v7, v8, v9, rfl, hw, h1, h3, h4, h5, h6, h7, h8, h9⟩, hc⟩ := h.at_ k hk
  have hg : xs.getD k default = xs[k] := by simp [List.getD_eq_getElem?_getD, hk]
  exact ⟨v5, by rw [hg]; exact h5, hc 5 _ rfl⟩
theorem leaf41_6 {Φ : Hp} {xs : List Bt.Basin} {v : Value} (h : RepSl Φ xs v) {k : Nat} (hk : k < xs.length) : ∃ sv, RepSl Φ (xs.getD k default).Gauges sv ∧ PCell Φ (Value.at v (k * 11 + 6)) sv := by
  obtain ⟨cs, ⟨v1, v3, v4, v5, v6, v7, v8, v9, rfl, hw, h1, h3, h4, h5, h6, h7, h8, h9⟩, hc⟩ := h.at_ k hk
  have hg : xs.getD k default = xs[k] := by simp [List.getD_eq_getElem?_getD, hk]
  exact ⟨v6, by rw [hg]; exact h6, hc 6 _ rfl⟩
theorem leaf41_7 {Φ : Hp} {xs : List Bt.Basin} {v : Value} (h : RepSl Φ xs v) {k : Nat} (hk : k < xs.length) : ∃ sv, RepSl Φ (xs.getD k default).Roads sv ∧ PCell Φ (Value.at v (k * 11 + 7)) sv := by
  obtain ⟨cs, ⟨v1, v3, v4, v5, v6, v7, v8, v9, rfl, hw, h1, h3, h4, h5, h6, h7, h8, h9⟩, hc⟩ := h.at_ k hk
  have hg : xs.getD k default = xs[k] := by simp [List.getD_eq_getElem?_getD, hk]
  exact ⟨v7, by rw [hg]; exact h7, hc 7 _ rfl⟩
theorem leaf41_8 {Φ : Hp} {xs : List Bt.Basin} {v : Value} (h : RepSl Φ xs v) {k : Nat} (hk : k < xs.length) : ∃ sv, RepSl Φ (xs.getD k default).Shelters sv ∧ PCell Φ (Value.at v (k * 11 + 8)) sv := by
  obtain ⟨cs, ⟨v1, v3, v4, v5, v6, v7, v8, v9, rfl, hw, h1, h3, h4, h5, h6, h7, h8, h9⟩, hc⟩ := h.at_ k hk
  have hg : xs.getD k default = xs[k] := by simp [List.getD_eq_getElem?_getD, hk]
  exact ⟨v8, by rw [hg]; exact h8, hc 8 _ rfl⟩
theorem leaf41_9 {Φ : Hp} {xs : List Bt.Basin} {v : Value} (h : RepSl Φ xs v) {k : Nat} (hk : k < xs.length) : ∃ sv, RepSl Φ (xs.getD k default).Room sv ∧ PCell Φ (Value.at v (k * 11 + 9)) sv := by
  obtain ⟨cs, ⟨v1, v3, v4, v5, v6, v7, v8, v9, rfl, hw, h1, h3, h4, h5, h6, h7, h8, h9⟩, hc⟩ := h.at_ k hk
  have hg : xs.getD k default = xs[k] := by simp [List.getD_eq_getElem?_getD, hk]
  exact ⟨v9, by rw [hg]; exact h9, hc 9 _ rfl⟩
theorem leaf41_10 {Φ : Hp} {x : Bt.Basin} {cs : List Value} (h : Rep.rep Φ x cs) : cs[10]? = some (.int .i64 x.Err) := by obtain ⟨v1, v3, v4, v5, v6, v7, v8, v9, h, hw, h1, h3, h4, h5, h6, h7, h8, h9⟩ := h; rw [h]; rfl
instance : Rep Bt.Span where
  sz := 2
  bytes := 16
  rep := fun _ x cs => cs = [.int .i64 x.Lo, .int .i64 x.Hi] ∧ (I64 x.Lo ∧ I64 x.Hi)
  len := fun h => by rw [h.1]; rfl
  mono := fun _ h => h
  one := fun h u hu => by
    rw [h.1] at hu
    simp only [List.mem_cons, List.not_mem_nil, or_false] at hu
    rcases hu with rfl | rfl <;> rfl
instance : RepE Bt.Span where
  cells := fun x => [.int .i64 x.Lo, .int .i64 x.Hi]
  wf := fun x => I64 x.Lo ∧ I64 x.Hi
  iff := Iff.rfl
theorem even47 : EvenE Bt.Span := fun _ => rfl
instance : Rep Bt.Reading where
  sz := 4
  bytes := 32
  rep := fun _ x cs => cs = [.int .i64 x.Gauge, .int .i64 x.Hour, .int .i64 x.Value.Lo, .int .i64 x.Value.Hi] ∧ (I64 x.Gauge ∧ I64 x.Hour ∧ I64 x.Value.Lo ∧ I64 x.Value.Hi)
  len := fun h => by rw [h.1]; rfl
  mono := fun _ h => h
  one := fun h u hu => by
    rw [h.1] at hu
    simp only [List.mem_cons, List.not_mem_nil, or_false] at hu
    rcases hu with rfl | rfl | rfl | rfl <;> rfl
instance : RepE Bt.Reading where
  cells := fun x => [.int .i64 x.Gauge, .int .i64 x.Hour, .int .i64 x.Value.Lo, .int .i64 x.Value.Hi]
  wf := fun x => I64 x.Gauge ∧ I64 x.Hour ∧ I64 x.Value.Lo ∧ I64 x.Value.Hi
  iff := Iff.rfl
theorem even49 : EvenE Bt.Reading := fun _ => rfl
instance : Rep Bt.Notice where
  sz := 4
  bytes := 32
  rep := fun _ x cs => cs = [.int .i64 x.Gauge, .int .i64 x.Minute, .int .i64 x.Late, .int .i64 x.More] ∧ (I64 x.Gauge ∧ I64 x.Minute ∧ I64 x.Late ∧ I64 x.More)
  len := fun h => by rw [h.1]; rfl
  mono := fun _ h => h
  one := fun h u hu => by
    rw [h.1] at hu
    simp only [List.mem_cons, List.not_mem_nil, or_false] at hu
    rcases hu with rfl | rfl | rfl | rfl <;> rfl
instance : RepE Bt.Notice where
  cells := fun x => [.int .i64 x.Gauge, .int .i64 x.Minute, .int .i64 x.Late, .int .i64 x.More]
  wf := fun x => I64 x.Gauge ∧ I64 x.Minute ∧ I64 x.Late ∧ I64 x.More
  iff := Iff.rfl
theorem even57 : EvenE Bt.Notice := fun _ => rfl
end Go.Proofs.Ytlljbndnodbecaa
