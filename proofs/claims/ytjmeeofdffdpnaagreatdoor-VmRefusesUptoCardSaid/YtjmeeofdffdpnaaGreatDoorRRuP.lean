/- Lemmas. Conditions: those of each theorem. -/
import Derived.Test.YtjmeeofdffdpnaaGreatDoorRows
import Derived.Test.YtjmeeofdffdpnaaGreatDoorRNums
import Derived.Test.YtjmeeofdffdpnaaGreatDoorRLen
import Derived.Test.YtjmeeofdffdpnaaGreatDoorRAuto
import Derived.Lib.ItoaNum
import Derived.Lib.IndexMore
import Derived.Lib.LaidTab
import Derived.Test.YtjmeeofdffdpnaaGreatDoorRTop
import Derived.LaidMore
import Derived.LaidLaws
import Derived.LaidHandle
import Derived.OpenShut
set_option maxRecDepth 8000
set_option maxHeartbeats 16000000
namespace Go.Proofs.YtjmeeofdffdpnaaGreatDoor
open Go Go.K Go.RowKit
theorem oK {k : FuncId} (h : (Tryz.prog.funcs[k]?).map (fun fn => fn.name == "runtime.NumGoroutine" || fn.body.isNone) = some false := by kernel_rfl) : Go.K.Own Tryz.prog k := own_of h
noncomputable abbrev pg := Tryz.prog
theorem uT3 : type_of% @Tryz.underlying3 := @Tryz.underlying3
theorem uT9 : type_of% @Tryz.underlying9 := @Tryz.underlying9
theorem uT29 : type_of% @Tryz.underlying29 := @Tryz.underlying29
theorem uT32 : type_of% @Tryz.underlying32 := @Tryz.underlying32
theorem uT101 : type_of% @Tryz.underlying101 := @Tryz.underlying101
theorem uT115 : type_of% @Tryz.underlying115 := @Tryz.underlying115
theorem uT116 : type_of% @Tryz.underlying116 := @Tryz.underlying116
theorem uT128 : type_of% @Tryz.underlying128 := @Tryz.underlying128
theorem uT141 : type_of% @Tryz.underlying141 := @Tryz.underlying141
theorem uT175 : type_of% @Tryz.underlying175 := @Tryz.underlying175
attribute [local irreducible] AW RW DW Post Qt
theorem hmix : Tryz.prog.follows .mixedOrders = true := by kernel_rfl
theorem sz3 : (Tryz.prog.info? 3).map (·.size) = some 1 := by kernel_rfl
theorem zero3 : (Tryz.prog.info? 3).map (·.zero) = some (some (iV 0)) := by kernel_rfl
theorem inf3 : (Tryz.prog.info? 3).map (fun i => (i.zero, i.size, i.bytes)) = some (some (iV 0), 1, 8) := by kernel_rfl
theorem zero4 : (Tryz.prog.info? 4).map (·.zero) = some (some (.bool false)) := by kernel_rfl
theorem sz9 : (Tryz.prog.info? 9).map (·.size) = some 1 := by kernel_rfl
theorem sz22 : (Tryz.prog.info? 22).map (·.size) = some 1 := by kernel_rfl
theorem sz23 : (Tryz.prog.info? 23).map (·.size) = some 1 := by kernel_rfl
theorem sz24 : (Tryz.prog.info? 24).map (·.size) = some 1 := by kernel_rfl
theorem sz25 : (Tryz.prog.info? 25).map (·.size) = some 1 := by kernel_rfl
theorem sz29 : (Tryz.prog.info? 29).map (·.size) = some 1 := by kernel_rfl
theorem sz31 : (Tryz.prog.info? 31).map (·.size) = some 11 := by kernel_rfl
theorem sz32 : (Tryz.prog.info? 32).map (·.size) = some 1 := by kernel_rfl
theorem sz33 : (Tryz.prog.info? 33).map (·.size) = some 1 := by kernel_rfl
theorem sz35 : (Tryz.prog.info? 35).map (·.size) = some 2 := by kernel_rfl
theorem sz36 : (Tryz.prog.info? 36).map (·.size) = some 1 := by kernel_rfl
theorem sz38 : (Tryz.prog.info? 38).map (·.size) = some 3 := by kernel_rfl
theorem zero38 : (Tryz.prog.info? 38).map (·.zero) = some (some (.agg #[.slice none 0 0, .slice none 0 0, .slice none 0 0])) := by kernel_rfl
theorem places38 : Plc Tryz.prog (fO Tryz.underlying38) #[(0, 1), (1, 1), (2, 1)] := fun w => by kernel_rfl
theorem sz41 : (Tryz.prog.info? 41).map (·.size) = some 6 := by kernel_rfl
theorem sz48 : (Tryz.prog.info? 48).map (·.size) = some 1 := by kernel_rfl
theorem sz49 : (Tryz.prog.info? 49).map (·.size) = some 1 := by kernel_rfl
theorem zero49 : (Tryz.prog.info? 49).map (·.zero) = some (some (iV 0)) := by kernel_rfl
theorem sz51 : (Tryz.prog.info? 51).map (·.size) = some 3 := by kernel_rfl
theorem zero51 : (Tryz.prog.info? 51).map (·.zero) = some (some (.agg #[.slice none 0 0, iV 0, iV 0])) := by kernel_rfl
theorem places51 : Plc Tryz.prog (fO Tryz.underlying51) #[(0, 1), (1, 1), (2, 1)] := fun w => by kernel_rfl
theorem sz56 : (Tryz.prog.info? 56).map (·.size) = some 3 := by kernel_rfl
theorem zero56 : (Tryz.prog.info? 56).map (·.zero) = some (some (.agg #[iV 0, iV 0, iV 0])) := by kernel_rfl
theorem inf56 : (Tryz.prog.info? 56).map (fun i => (i.zero, i.size, i.bytes)) = some (some (.agg #[iV 0, iV 0, iV 0]), 3, 24) := by kernel_rfl
theorem places56 : Plc Tryz.prog (fO Tryz.underlying56) #[(0, 1), (1, 1), (2, 1)] := fun w => by kernel_rfl
theorem sz57 : (Tryz.prog.info? 57).map (·.size) = some 1 := by kernel_rfl
theorem sz59 : (Tryz.prog.info? 59).map (·.size) = some 5 := by kernel_rfl
theorem zero59 : (Tryz.prog.info? 59).map (·.zero) = some (some (.agg #[iV 0, iV 0, iV 0, iV 0, .slice none 0 0])) := by kernel_rfl
theorem sz61 : (Tryz.prog.info? 61).map (·.size) = some 8 := by kernel_rfl
theorem zero61 : (Tryz.prog.info? 61).map (·.zero) = some (some (.agg #[.string ⟨#[]⟩, .slice none 0 0, iV 0, iV 0, iV 0, iV 0, iV 0, .slice none 0 0])) := by kernel_rfl
theorem sz76 : (Tryz.prog.info? 76).map (·.size) = some 11 := by kernel_rfl
theorem zero76 : (Tryz.prog.info? 76).map (·.zero) = some (some (.agg #[iV 0, iV 0, iV 0, iV 0, .slice none 0 0, iV 0, iV 0, iV 0, iV 0, iV 0, .slice none 0 0])) := by kernel_rfl
theorem zero78 : (Tryz.prog.info? 78).map (·.zero) = some (some (.agg #[.slice none 0 0])) := by kernel_rfl
theorem sz106 : (Tryz.prog.info? 106).map (·.size) = some 12 := by kernel_rfl
theorem sz111 : (Tryz.prog.info? 111).map (·.size) = some 18 := by kernel_rfl
theorem sz113 : (Tryz.prog.info? 113).map (·.size) = some 7 := by kernel_rfl
theorem sz128 : (Tryz.prog.info? 128).map (·.size) = some 1 := by kernel_rfl
theorem zero128 : (Tryz.prog.info? 128).map (·.zero) = some (some nS) := by kernel_rfl
theorem sz175 : (Tryz.prog.info? 175).map (·.size) = some 3 := by kernel_rfl
theorem zero175 : (Tryz.prog.info? 175).map (·.zero) = some (some (.agg #[iV 0, .string ⟨#[]⟩, iV 0])) := by kernel_rfl
theorem inf175 : (Tryz.prog.info? 175).map (fun i => (i.zero, i.size, i.bytes)) = some (some (.agg #[iV 0, .string ⟨#[]⟩, iV 0]), 3, 32) := by kernel_rfl
theorem places175 : Plc Tryz.prog (fO Tryz.underlying175) #[(0, 1), (1, 1), (2, 1)] := fun w => by kernel_rfl
instance : FA Tryz.prog 31 1 1 := fA Tryz.underlying31 rfl sz22
instance : FA Tryz.prog 31 3 3 := fA Tryz.underlying31 rfl sz23
instance : FA Tryz.prog 31 4 4 := fA Tryz.underlying31 rfl sz24
instance : FA Tryz.prog 31 5 5 := fA Tryz.underlying31 rfl sz25
instance : FA Tryz.prog 35 0 0 := fA Tryz.underlying35 rfl sz32
instance : FA Tryz.prog 35 1 1 := fA Tryz.underlying35 rfl sz33
instance : FA Tryz.prog 38 0 0 := fA Tryz.underlying38 rfl sz36
instance : FA Tryz.prog 38 1 1 := fA Tryz.underlying38 rfl sz29
instance : FA Tryz.prog 38 2 2 := fA Tryz.underlying38 rfl sz29
instance : FA Tryz.prog 51 0 0 := fA Tryz.underlying51 rfl sz48
instance : FA Tryz.prog 51 1 1 := fA Tryz.underlying51 rfl sz3
instance : FA Tryz.prog 51 2 2 := fA Tryz.underlying51 rfl sz49
instance : FA Tryz.prog 56 1 1 := fA Tryz.underlying56 rfl sz3
instance : FA Tryz.prog 56 2 2 := fA Tryz.underlying56 rfl sz3
instance : FA Tryz.prog 59 0 0 := fA Tryz.underlying59 rfl sz3
instance : FA Tryz.prog 59 1 1 := fA Tryz.underlying59 rfl sz3
instance : FA Tryz.prog 59 2 2 := fA Tryz.underlying59 rfl sz3
instance : FA Tryz.prog 59 3 3 := fA Tryz.underlying59 rfl sz3
instance : FA Tryz.prog 59 4 4 := fA Tryz.underlying59 rfl sz57
instance : FA Tryz.prog 61 0 0 := fA Tryz.underlying61 rfl sz9
instance : FA Tryz.prog 61 1 1 := fA Tryz.underlying61 rfl sz29
instance : FA Tryz.prog 61 2 2 := fA Tryz.underlying61 rfl sz3
instance : FA Tryz.prog 61 3 3 := fA Tryz.underlying61 rfl sz59
instance : FA Tryz.prog 76 0 0 := fA Tryz.underlying76 rfl sz59
instance : FA Tryz.prog 76 1 5 := fA Tryz.underlying76 rfl sz3
instance : FA Tryz.prog 76 2 6 := fA Tryz.underlying76 rfl sz59
instance : FA Tryz.prog 78 0 0 := fA Tryz.underlying78 rfl sz36
instance : FA Tryz.prog 106 0 0 := fA Tryz.underlying106 rfl sz9
instance : FA Tryz.prog 111 0 0 := fA Tryz.underlying111 rfl sz9
instance : FA Tryz.prog 113 0 0 := fA Tryz.underlying113 rfl sz9
instance : FA Tryz.prog 115 0 0 := fA Tryz.underlying115 rfl sz32
instance : FA Tryz.prog 175 2 2 := fA Tryz.underlying175 rfl sz3
instance : NA Tryz.prog 3 := ⟨_, Tryz.underlying3, rfl⟩
instance : NA Tryz.prog 9 := ⟨_, Tryz.underlying9, rfl⟩
instance : NA Tryz.prog 22 := ⟨_, Tryz.underlying22, rfl⟩
instance : NA Tryz.prog 23 := ⟨_, Tryz.underlying23, rfl⟩
instance : NA Tryz.prog 24 := ⟨_, Tryz.underlying24, rfl⟩
instance : NA Tryz.prog 25 := ⟨_, Tryz.underlying25, rfl⟩
instance : NA Tryz.prog 29 := ⟨_, Tryz.underlying29, rfl⟩
instance : AG Tryz.prog 31 11 := ⟨_, Tryz.underlying31, rfl, sz31⟩
instance : NA Tryz.prog 32 := ⟨_, Tryz.underlying32, rfl⟩
instance : NA Tryz.prog 33 := ⟨_, Tryz.underlying33, rfl⟩
instance : AG Tryz.prog 35 2 := ⟨_, Tryz.underlying35, rfl, sz35⟩
instance : NA Tryz.prog 36 := ⟨_, Tryz.underlying36, rfl⟩
instance : AG Tryz.prog 38 3 := ⟨_, Tryz.underlying38, rfl, sz38⟩
instance : AG Tryz.prog 41 6 := ⟨_, Tryz.underlying41, rfl, sz41⟩
instance : NA Tryz.prog 48 := ⟨_, Tryz.underlying48, rfl⟩
instance : NA Tryz.prog 49 := ⟨_, Tryz.underlying49, rfl⟩
instance : AG Tryz.prog 51 3 := ⟨_, Tryz.underlying51, rfl, sz51⟩
instance : AG Tryz.prog 56 3 := ⟨_, Tryz.underlying56, rfl, sz56⟩
instance : NA Tryz.prog 57 := ⟨_, Tryz.underlying57, rfl⟩
instance : AG Tryz.prog 59 5 := ⟨_, Tryz.underlying59, rfl, sz59⟩
instance : AG Tryz.prog 61 8 := ⟨_, Tryz.underlying61, rfl, sz61⟩
instance : AG Tryz.prog 76 11 := ⟨_, Tryz.underlying76, rfl, sz76⟩
instance : NA Tryz.prog 101 := ⟨_, Tryz.underlying101, rfl⟩
instance : NA Tryz.prog 128 := ⟨_, Tryz.underlying128, rfl⟩
instance : NA Tryz.prog 156 := ⟨_, Tryz.underlying156, rfl⟩
instance : AG Tryz.prog 175 3 := ⟨_, Tryz.underlying175, rfl, sz175⟩
instance : SY Tryz.prog 22 := ⟨_, Tryz.underlying22⟩
instance : SY Tryz.prog 23 := ⟨_, Tryz.underlying23⟩
instance : SY Tryz.prog 24 := ⟨_, Tryz.underlying24⟩
instance : SY Tryz.prog 25 := ⟨_, Tryz.underlying25⟩
instance : SY Tryz.prog 29 := ⟨_, Tryz.underlying29⟩
instance : SY Tryz.prog 32 := ⟨_, Tryz.underlying32⟩
instance : SY Tryz.prog 33 := ⟨_, Tryz.underlying33⟩
instance : SY Tryz.prog 36 := ⟨_, Tryz.underlying36⟩
instance : SY Tryz.prog 48 := ⟨_, Tryz.underlying48⟩
instance : SY Tryz.prog 57 := ⟨_, Tryz.underlying57⟩
instance : SZ Tryz.prog 3 1 := ⟨sz3⟩
instance : SZ Tryz.prog 36 1 := ⟨sz36⟩
instance : SZ Tryz.prog 38 3 := ⟨sz38⟩
instance : SZ Tryz.prog 49 1 := ⟨sz49⟩
instance : SZ Tryz.prog 51 3 := ⟨sz51⟩
instance : SZ Tryz.prog 59 5 := ⟨sz59⟩
instance : SZ Tryz.prog 61 8 := ⟨sz61⟩
instance : SZ Tryz.prog 76 11 := ⟨sz76⟩
instance : SZ Tryz.prog 128 1 := ⟨sz128⟩
instance : SZ Tryz.prog 175 3 := ⟨sz175⟩
instance : ZL Tryz.prog 3 [iV 0] := ⟨_, zero3, rfl⟩
instance : ZL Tryz.prog 38 [nS, nS, nS] := ⟨_, zero38, rfl⟩
instance : ZL Tryz.prog 49 [iV 0] := ⟨_, zero49, rfl⟩
instance : ZL Tryz.prog 51 [nS, iV 0, iV 0] := ⟨_, zero51, rfl⟩
instance : ZL Tryz.prog 59 [iV 0, iV 0, iV 0, iV 0, nS] := ⟨_, zero59, rfl⟩
instance : ZL Tryz.prog 61 [.string (bs ([])), nS, iV 0, iV 0, iV 0, iV 0, iV 0, nS] := ⟨_, zero61, rfl⟩
instance : ZL Tryz.prog 76 [iV 0, iV 0, iV 0, iV 0, nS, iV 0, iV 0, iV 0, iV 0, iV 0, nS] := ⟨_, zero76, rfl⟩
instance : ZL Tryz.prog 78 [nS] := ⟨_, zero78, rfl⟩
instance : ZL Tryz.prog 128 [nS] := ⟨_, zero128, rfl⟩
instance : ZL Tryz.prog 175 [iV 0, .string (bs ([])), iV 0] := ⟨_, zero175, rfl⟩
end Go.Proofs.YtjmeeofdffdpnaaGreatDoor
namespace Un
open Go
def M : Nat := 1125899906842624
def isD (b : UInt8) : Bool := decide (48 ≤ b.toNat) && decide (b.toNat ≤ 57)
def dg (b : UInt8) : Nat := b.toNat - 48
def stepV (n : Nat) (b : UInt8) : Nat := 10 * n + dg b
def val (l : List UInt8) : Nat := l.foldl stepV 0
/-! ### the parts of a number -/
def bef : List UInt8 → List UInt8
  | [] => []
  | b :: l => if b = 46 then [] else b :: bef l
def aft : List UInt8 → List UInt8
  | [] => []
  | b :: l => if b = 46 then l else aft l
def pt : List UInt8 → Bool
  | [] => false
  | b :: l => if b = 46 then true else pt l
def digs (l : List UInt8) (k : Int) : Bool := l.all isD && decide (1 ≤ l.length) && decide ((l.length : Int) ≤ k)
def okF (l : List UInt8) : Bool := digs (bef l) 20 && (!pt l || digs (aft l) 9)
/-! ### units -/
def ms : List (List UInt8 × Nat × Nat × Nat) := [([], 0, 1, 1), ([108], 1, 1, 1), ([109, 51], 1, 1000, 1), ([77, 76], 1, 1000000, 1), ([71, 76], 1, 1000000000, 1), ([108, 112, 104], 2, 1, 1), ([108, 112, 115], 2, 3600, 1), ([109, 51, 112, 115], 2, 3600000, 1), ([77, 76, 112, 100], 2, 1000000, 24), ([109, 109], 3, 1, 1), ([99, 109], 3, 10, 1), ([109], 3, 1000, 1), ([104], 4, 1, 1), ([100], 4, 24, 1), ([109, 50], 5, 1, 1), ([104, 97], 5, 10000, 1), ([107, 109, 50], 5, 1000000, 1), ([112, 101, 114, 109, 105, 108, 108, 101], 6, 1, 1), ([112, 101, 114, 99, 101, 110, 116], 6, 10, 1)]
def look (n : List UInt8) : Option (List UInt8 × Nat × Nat × Nat) := ms.find? fun m => decide (m.1 = n)
def amt (l n : List UInt8) : Nat × Nat × Nat :=
  if okF l then match look n with
    | none => (0, 0, 6)
    | some m => if val (bef l ++ aft l) * m.2.2.1 % (10 ^ (aft l).length * m.2.2.2) = 0 ∧ val (bef l ++ aft l) * m.2.2.1 / (10 ^ (aft l).length * m.2.2.2) ≤ M then (val (bef l ++ aft l) * m.2.2.1 / (10 ^ (aft l).length * m.2.2.2), m.2.1, 0) else (0, 0, 7)
  else (0, 0, 2)
/-! ### lists of digits -/
def ovs (k : Int) (a : List Int × Int) (x : Int) : List Int × Int := (a.1 ++ [(10 * a.2 + x) / k], (10 * a.2 + x) % k)
def ov (l : List Int) (k : Int) : List Int × Int := l.foldl (ovs k) ([], 0)
end Un
namespace Un
open Go
/-! ### the reference's way -/
/-! ### the ends of the reference's Amount -/
end Un
namespace Un
open Go
/-! ### what is written -/
/-! ### more zeros -/
end Un
namespace Un
open Go
abbrev Mea := List UInt8 × Nat × Nat × Nat
theorem take_snoc {l : List UInt8} {k : Nat} (hk : k < l.length) : l.take (k + 1) = l.take k ++ [l.getD k 0] := by
  rw [List.take_succ_eq_append_getElem hk]; simp [hk]
end Un
namespace Un
open Go
end Un
namespace Un
open Go
end Un
namespace Go.Proofs.YtjmeeofdffdpnaaGreatDoor
open Go Go.K Go.RowKit
attribute [local irreducible] AW RW DW Post Qt
def mCells : List Value := Un.ms.flatMap fun m => [.string (bs m.1), iV (m.2.1 : Int), iV (m.2.2.1 : Int), iV (m.2.2.2 : Int)]
def Glob (w : World) : Prop := (∀ j v, mCells[j]? = some v → w.cell? ⟨5, j, none⟩ = some v) ∧ (∀ (j : Nat) (v : Value), [Value.string (bs [111, 114]), iV 12, .string (bs [111, 114]), iV 12, .string (bs [97, 110, 100]), iV 11, .string (bs [97, 110, 100]), iV 11, .string (bs [43]), iV 4, .string (bs [45]), iV 5, .string (bs [42]), iV 6, .string (bs [47]), iV 7][j]? = some v → w.cell? ⟨1, j, none⟩ = some v) ∧ (∀ (j : Nat) (v : Value), [Value.int .i64 31, iV 29, iV 31, iV 30, iV 31, iV 30, iV 31, iV 31, iV 30, iV 31, iV 30, iV 31][j]? = some v → w.cell? ⟨0, j, none⟩ = some v)
end Go.Proofs.YtjmeeofdffdpnaaGreatDoor
namespace Go.Proofs.YtjmeeofdffdpnaaGreatDoor
open Go Go.K Go.ChangeShapes Go.WideShapes Go.RowKit
theorem flat_of {g : Nat → List Value} {k : Nat} (hk : ∀ i, (g i).length = k) : ∀ (n : Nat) (cs : List Value), cs.length = n * k → (∀ i, i < n → (cs.drop (i * k)).take k = g i) → cs = (List.range n).flatMap g
  | 0, cs, hl, _ => by
    have : cs.length = 0 := by omega
    rw [List.length_eq_zero_iff.1 this]; rfl
  | n + 1, cs, hl, h => by
    have h1 := flat_of hk n (cs.take (n * k)) (by rw [List.length_take, hl]; exact Nat.min_eq_left (Nat.mul_le_mul_right _ (by omega))) (fun i hi => by
      rw [List.drop_take, List.take_take]
      have : k ≤ n * k - i * k := by
        rw [← Nat.sub_mul]
        exact Nat.le_mul_of_pos_left _ (by omega)
      rw [Nat.min_eq_left this]
      exact h i (by omega))
    have h2 := h n (by omega)
    rw [List.take_of_length_le (by rw [List.length_drop, hl, Nat.add_mul]; omega)] at h2
    rw [List.range_succ, List.flatMap_append, ← h1, List.flatMap_cons, List.flatMap_nil, List.append_nil, ← h2, List.take_append_drop]
section
variable {H : Type} {enc : TypeId × Value → H} {W : World} {base : Nat} {sp : Nat → Bool} {held : Bool}
theorem arr_cells {T E n k fuel : Nat} {cs : List Value} {p : List MemPlace} {ds : List (DataW H)} {g : Nat → List Value} (hT : Tryz.prog.underlying T = some (.array n E)) (hE : Tryz.prog.cellsOf E = k) (hTc : Tryz.prog.cellsOf T = n * k) (hk : ∀ i, (g i).length = k)
    (hg : ∀ i d, ds[i]? = some d → ∀ (f : Nat) (c : List Value) (q : List MemPlace), DataW.trod enc Tryz.prog W base sp held f E c = some (d, q) → c = g i) (h : DataW.trod enc Tryz.prog W base sp held fuel T cs = some (.agg ds, p)) : cs = (List.range n).flatMap g := by
  obtain ⟨xs, f, _, hx, hl, hxl, hf⟩ := DataW.trod_array hT h
  have hl2 : cs.length = n * k := hl.trans hTc
  have hx' : DataW.agg ds = DataW.agg (xs.map (·.1)) := congrArg Prod.fst hx
  have hx2 : ds = xs.map (·.1) := by simpa using hx'
  refine flat_of hk n cs hl2 fun i hi => ?_
  have hfi := hf i hi
  rw [hE] at hfi
  have hxi : xs[i]? = some (xs[i]'(by omega)) := List.getElem?_eq_getElem _
  rw [hxi] at hfi
  refine hg i _ ?_ f _ _ hfi
  rw [hx2, List.getElem?_map, hxi]; rfl
def mD (m : Un.Mea) : DataW H := .agg [.lit (.string m.1), .lit (.int .i64 (m.2.1 : Int)), .lit (.int .i64 (m.2.2.1 : Int)), .lit (.int .i64 (m.2.2.2 : Int))]
abbrev mC (m : Un.Mea) : List Value := [.string (bs m.1), .int .i64 (m.2.1 : Int), .int .i64 (m.2.2.1 : Int), .int .i64 (m.2.2.2 : Int)]
theorem len4 {α : Type} {l : List α} (h : l.length = 4) : ∃ a b c d, l = [a, b, c, d] := by
  match l, h with
  | [a, b, c, d], _ => exact ⟨a, b, c, d, rfl⟩
theorem len2 {α : Type} {l : List α} (h : l.length = 2) : ∃ a b, l = [a, b] := by
  match l, h with
  | [a, b], _ => exact ⟨a, b, rfl⟩
theorem one_mea {fuel : Nat} {cs : List Value} {m : Un.Mea} {p : List MemPlace} (h : DataW.trod enc Tryz.prog W base sp held fuel 272 cs = some (mD m, p)) : cs = mC m := by
  obtain ⟨xs, n, _, hx, hl, hxl, hf⟩ := DataW.trod_struct Tryz.underlying272 h
  have h0 : DataW.trod enc Tryz.prog W base sp held n 9 ((cs.drop 0).take (Tryz.prog.cellsOf 9)) = xs[0]? := hf 0 _ rfl
  have h1 : DataW.trod enc Tryz.prog W base sp held n 3 ((cs.drop 1).take (Tryz.prog.cellsOf 3)) = xs[1]? := hf 1 _ rfl
  have h2 : DataW.trod enc Tryz.prog W base sp held n 3 ((cs.drop 2).take (Tryz.prog.cellsOf 3)) = xs[2]? := hf 2 _ rfl
  have h3 : DataW.trod enc Tryz.prog W base sp held n 3 ((cs.drop 3).take (Tryz.prog.cellsOf 3)) = xs[3]? := hf 3 _ rfl
  have e9 : Tryz.prog.cellsOf 9 = 1 := by kernel_rfl
  have e3 : Tryz.prog.cellsOf 3 = 1 := by kernel_rfl
  have hl4 : cs.length = 4 := hl.trans (by kernel_rfl)
  obtain ⟨c0, c1, c2, c3, rfl⟩ := len4 hl4
  obtain ⟨x0, x1, x2, x3, rfl⟩ := len4 (show xs.length = 4 from hxl)
  have hx' : mD m = DataW.agg [x0.1, x1.1, x2.1, x3.1] := congrArg Prod.fst hx
  unfold mD at hx'
  simp only [DataW.agg.injEq, List.cons.injEq, and_true] at hx'
  obtain ⟨d0, d1, d2, d3⟩ := hx'
  simp only [e9, e3, List.drop_zero, List.drop_succ_cons, List.take_succ_cons, List.take_zero, List.getElem?_cons_zero, List.getElem?_cons_succ] at h0 h1 h2 h3
  obtain ⟨s0, k0, z0, _⟩ := DataW.trod_string Tryz.underlying9 h0
  obtain ⟨s1, k1, z1, _⟩ := DataW.trod_int Tryz.underlying3 h1
  obtain ⟨s2, k2, z2, _⟩ := DataW.trod_int Tryz.underlying3 h2
  obtain ⟨s3, k3, z3, _⟩ := DataW.trod_int Tryz.underlying3 h3
  rw [z0] at d0
  rw [z1] at d1
  rw [z2] at d2
  rw [z3] at d3
  obtain rfl : c0 = .string s0 := by simpa using k0
  obtain rfl : c1 = .int .i64 s1 := by simpa using k1
  obtain rfl : c2 = .int .i64 s2 := by simpa using k2
  obtain rfl : c3 = .int .i64 s3 := by simpa using k3
  have e0 : m.1 = s0.data.toList := by simpa using d0
  have e1 : (m.2.1 : Int) = s1 := by simpa using d1
  have e2 : (m.2.2.1 : Int) = s2 := by simpa using d2
  have e3 : (m.2.2.2 : Int) = s3 := by simpa using d3
  unfold mC
  rw [e0, e1, e2, e3]; rfl
abbrev Lev := List UInt8 × Int
def vD (m : Lev) : DataW H := .agg [.lit (.string m.1), .lit (.int .i64 m.2)]
abbrev vC (m : Lev) : List Value := [.string (bs m.1), .int .i64 m.2]
theorem one_lev {fuel : Nat} {cs : List Value} {m : Lev} {p : List MemPlace} (h : DataW.trod enc Tryz.prog W base sp held fuel 229 cs = some (vD m, p)) : cs = vC m := by
  obtain ⟨xs, n, _, hx, hl, hxl, hf⟩ := DataW.trod_struct Tryz.underlying229 h
  have h0 : DataW.trod enc Tryz.prog W base sp held n 9 ((cs.drop 0).take (Tryz.prog.cellsOf 9)) = xs[0]? := hf 0 _ rfl
  have h1 : DataW.trod enc Tryz.prog W base sp held n 3 ((cs.drop 1).take (Tryz.prog.cellsOf 3)) = xs[1]? := hf 1 _ rfl
  have e9 : Tryz.prog.cellsOf 9 = 1 := by kernel_rfl
  have e3 : Tryz.prog.cellsOf 3 = 1 := by kernel_rfl
  have hl4 : cs.length = 2 := hl.trans (by kernel_rfl)
  obtain ⟨c0, c1, rfl⟩ := len2 hl4
  obtain ⟨x0, x1, rfl⟩ := len2 (show xs.length = 2 from hxl)
  have hx' : vD m = DataW.agg [x0.1, x1.1] := congrArg Prod.fst hx
  unfold vD at hx'
  simp only [DataW.agg.injEq, List.cons.injEq, and_true] at hx'
  obtain ⟨d0, d1⟩ := hx'
  simp only [e9, e3, List.drop_zero, List.drop_succ_cons, List.take_succ_cons, List.take_zero, List.getElem?_cons_zero, List.getElem?_cons_succ] at h0 h1
  obtain ⟨s0, k0, z0, _⟩ := DataW.trod_string Tryz.underlying9 h0
  obtain ⟨s1, k1, z1, _⟩ := DataW.trod_int Tryz.underlying3 h1
  rw [z0] at d0
  rw [z1] at d1
  obtain rfl : c0 = .string s0 := by simpa using k0
  obtain rfl : c1 = .int .i64 s1 := by simpa using k1
  have e0 : m.1 = s0.data.toList := by simpa using d0
  have e1 : m.2 = s1 := by simpa using d1
  unfold vC
  rw [e0, e1]; rfl
theorem map_at {α β : Type} {f : α → β} {l : List α} {x : α} {i : Nat} {d : β} (h : (l.map f)[i]? = some d) : d = f (l.getD i x) := by
  rw [List.getElem?_map] at h
  obtain ⟨a, h1, h2⟩ := mS h
  rw [← h2, gDD, h1]; rfl
def levs : List (List Lev) := [[([111, 114], 12), ([111, 114], 12)], [([97, 110, 100], 11), ([97, 110, 100], 11)], [([43], 4), ([45], 5)], [([42], 6), ([47], 7)]]
theorem two_lev {fuel : Nat} {cs : List Value} {ls : List Lev} {p : List MemPlace} (h : DataW.trod enc Tryz.prog W base sp held fuel 230 cs = some (.agg (ls.map vD), p)) : cs = (List.range 2).flatMap fun i => vC (ls.getD i ([], 0)) :=
  arr_cells (k := 2) Tryz.underlying230 (by kernel_rfl) (by kernel_rfl) (fun _ => rfl) (fun i d hd f c q hc => by rw [map_at (x := (([] : List UInt8), (0 : Int))) hd] at hc; exact one_lev hc) h
theorem all_lev {fuel : Nat} {cs : List Value} {p : List MemPlace} (h : DataW.trod enc Tryz.prog W base sp held fuel 231 cs = some (.agg (levs.map fun ls => .agg (ls.map vD)), p)) : cs = (List.range 4).flatMap fun j => (List.range 2).flatMap fun i => vC ((levs.getD j []).getD i ([], 0)) :=
  arr_cells (k := 4) Tryz.underlying231 (by kernel_rfl) (by kernel_rfl) (fun _ => rfl) (fun i d hd f c q hc => by rw [map_at (x := ([] : List Lev)) hd] at hc; exact two_lev hc) h
theorem all_mea {fuel : Nat} {cs : List Value} {p : List MemPlace} (h : DataW.trod enc Tryz.prog W base sp held fuel 276 cs = some (.agg (Un.ms.map mD), p)) : cs = (List.range 19).flatMap fun i => mC (Un.ms.getD i default) :=
  arr_cells (k := 4) Tryz.underlying276 (by kernel_rfl) (by kernel_rfl) (fun _ => rfl) (fun i d hd f c q hc => by rw [map_at (x := (default : Un.Mea)) hd] at hc; exact one_mea hc) h
def mons : List Int := [31, 29, 31, 30, 31, 30, 31, 31, 30, 31, 30, 31]
theorem one_int {fuel : Nat} {cs : List Value} {m : Int} {p : List MemPlace} (h : DataW.trod enc Tryz.prog W base sp held fuel 3 cs = some (.lit (.int .i64 m), p)) : cs = [.int .i64 m] := by
  obtain ⟨s1, k1, z1, _⟩ := DataW.trod_int Tryz.underlying3 h
  have e : m = s1 := by have := congrArg Prod.fst z1; simpa using this
  rw [e]; simpa using k1
theorem all_mon {fuel : Nat} {cs : List Value} {p : List MemPlace} (h : DataW.trod enc Tryz.prog W base sp held fuel 207 cs = some (.agg (mons.map fun m => .lit (.int .i64 m)), p)) : cs = (List.range 12).flatMap fun i => [Value.int .i64 (mons.getD i 0)] :=
  arr_cells (k := 1) Tryz.underlying207 (by kernel_rfl) (by kernel_rfl) (fun _ => rfl) (fun i d hd f c q hc => by rw [map_at (x := (0 : Int)) hd] at hc; exact one_int hc) h
end
theorem gMon : Tryz.prog.globalNamed "bourne/date.months" = some 0 := by kernel_rfl
theorem gLev : Tryz.prog.globalNamed "bourne/rule.levels" = some 1 := by kernel_rfl
theorem gMea : Tryz.prog.globalNamed "bourne/unit.measures" = some 5 := by kernel_rfl
theorem tMon : (Tryz.prog.globals[0]?).map (·.type) = some 207 := by kernel_rfl
theorem tLev : (Tryz.prog.globals[1]?).map (·.type) = some 231 := by kernel_rfl
theorem tMea : (Tryz.prog.globals[5]?).map (·.type) = some 276 := by kernel_rfl
theorem glob_of_laid {l : List (String × DataW Unit)} (hp : (l.all fun x => x.2.handleName?.isNone) = true) (hl : l = [("bourne/date.months", Rows.laid_bourne_date_months), ("bourne/unit.measures", Rows.laid_bourne_unit_measures), ("bourne/rule.levels", Rows.laid_bourne_rule_levels)]) {W : World} (h : laidMetH Tryz.prog l W) : Glob W := by
  have h' : laidMet Tryz.prog l W := by
    unfold laidMetH at h
    have e : (l.filter fun x => x.2.handleName?.isSome) = [] := by
      rw [List.filter_eq_nil_iff]
      intro x hx hs
      have := List.all_eq_true.1 hp x hx
      cases hn : x.2.handleName? with
      | none => rw [hn] at hs; cases hs
      | some n => rw [hn] at this; cases this
    rw [e] at h; exact h
  subst hl
  obtain ⟨ps, ⟨g1, t1, c1, f1, p1, q1, a1, b1, v1, r1, ⟨g2, t2, c2, f2, p2, q2, a2, b2, v2, r2, ⟨g3, t3, c3, f3, p3, q3, a3, b3, v3, r3, _⟩, _⟩, _⟩, _⟩ := h'
  refine ⟨fun j v hv => ?_, fun j v hv => ?_, fun j v hv => ?_⟩
  · obtain rfl := sJ (gMea.symm.trans a2)
    obtain rfl := sJ (tMea.symm.trans b2)
    have hc := all_mea r2
    have := World.var?_cell gMea v2 j
    rw [this, ← Array.getElem?_toList, hc]
    exact hv
  · obtain rfl := sJ (gLev.symm.trans a3)
    obtain rfl := sJ (tLev.symm.trans b3)
    have hc := all_lev r3
    have := World.var?_cell gLev v3 j
    rw [this, ← Array.getElem?_toList, hc]
    exact hv
  · obtain rfl := sJ (gMon.symm.trans a1)
    obtain rfl := sJ (tMon.symm.trans b1)
    have hc := all_mon r1
    have := World.var?_cell gMon v1 j
    rw [this, ← Array.getElem?_toList, hc]
    exact hv
theorem knows_glob {W : World} (h : Glob W) : Knows (hp W) Glob := fun w hw => by
  refine ⟨fun j v hv => ?_, fun j v hv => ?_, fun j v hv => ?_⟩
  · exact ((pcell_of (h.1 j v hv)).mono hw).cell
  · exact ((pcell_of (h.2.1 j v hv)).mono hw).cell
  · exact ((pcell_of (h.2.2 j v hv)).mono hw).cell
end Go.Proofs.YtjmeeofdffdpnaaGreatDoor
namespace Lx
def isL (c : UInt8) : Bool := decide ((97 ≤ c.toNat ∧ c.toNat ≤ 122) ∨ (65 ≤ c.toNat ∧ c.toNat ≤ 90))
def isD (c : UInt8) : Bool := decide (48 ≤ c.toNat ∧ c.toNat ≤ 57)
def inN (c : UInt8) : Bool := isL c || isD c || decide (c.toNat = 95)
def inS (c : UInt8) : Bool := decide (32 ≤ c.toNat ∧ c.toNat ≤ 126 ∧ c.toNat ≠ 34 ∧ c.toNat ≠ 92)
def nNl (c : UInt8) : Bool := decide (c.toNat ≠ 10)
def ws (c : UInt8) : Bool := decide (c.toNat = 9 ∨ c.toNat = 10 ∨ c.toNat = 13 ∨ c.toNat = 32)
def run (p : UInt8 → Bool) : List UInt8 → Nat
 | [] => 0
 | c :: r => if p c then run p r + 1 else 0
def skp : Bool → List UInt8 → Nat
 | _, [] => 0
 | true, c :: r => if c.toNat = 10 then skp false r + 1 else skp true r + 1
 | false, c :: r => if ws c then skp false r + 1 else if c.toNat = 35 then skp true r + 1 else 0
def signN (l : List UInt8) : Nat :=
 let c := (l.getD 0 0).toNat
 if c = 60 ∨ c = 62 ∨ c = 61 ∨ c = 33 then (if 1 < l.length ∧ (l.getD 1 0).toNat = 61 then 2 else if c ≠ 33 then 1 else 0)
 else if c = 123 ∨ c = 125 ∨ c = 40 ∨ c = 41 ∨ c = 44 ∨ c = 59 ∨ c = 58 ∨ c = 43 ∨ c = 45 ∨ c = 42 ∨ c = 47 ∨ c = 37 then 1 else 0
def numN (l : List UInt8) : Nat :=
 if run isD l + 1 < l.length ∧ (l.getD (run isD l) 0).toNat = 46 ∧ isD (l.getD (run isD l + 1) 0) = true then run isD l + 1 + run isD (l.drop (run isD l + 1)) else run isD l
def tk (l : List UInt8) : Nat × Nat × Nat × Nat × Bool :=
 if isL (l.getD 0 0) then (0, 0, run inN l, run inN l, decide (run inN l ≤ 24))
 else if isD (l.getD 0 0) then (1, 0, numN l, numN l, decide (numN l ≤ 24))
 else if (l.getD 0 0).toNat = 34 then (2, 1, run inS (l.drop 1), run inS (l.drop 1) + 2, decide (run inS (l.drop 1) + 1 < l.length ∧ (l.getD (run inS (l.drop 1) + 1) 0).toNat = 34 ∧ run inS (l.drop 1) ≤ 500))
 else (3, 0, signN l, signN l, decide (0 < signN l))
def txt (l : List UInt8) : List UInt8 := (l.drop (tk l).2.1).take (tk l).2.2.1
theorem run_le (p : UInt8 → Bool) : ∀ l, run p l ≤ l.length
 | [] => Nat.le_refl _
 | c :: r => by have := run_le p r; unfold run; split <;> simp <;> omega
theorem drop_cons {l : List UInt8} {k : Nat} (h : k < l.length) : l.drop k = l.getD k 0 :: l.drop (k + 1) := by
 rw [gDD, List.getElem?_eq_getElem h]; exact List.drop_eq_getElem_cons h
theorem run_yes {p : UInt8 → Bool} {l : List UInt8} {k : Nat} (h : k < l.length) (hp : p (l.getD k 0) = true) : run p (l.drop k) = run p (l.drop (k + 1)) + 1 := by
 rw [drop_cons h]; unfold run; rw [if_pos hp, run.eq_def]
theorem run_no {p : UInt8 → Bool} {l : List UInt8} {k : Nat} (h : k < l.length) (hp : p (l.getD k 0) = false) : run p (l.drop k) = 0 := by
 rw [drop_cons h]; unfold run; rw [if_neg (by rw [hp]; simp)]
theorem run_end {p : UInt8 → Bool} {l : List UInt8} {k : Nat} (h : l.length ≤ k) : run p (l.drop k) = 0 := by
 rw [List.drop_of_length_le h]; rfl
theorem run_drop_le (p : UInt8 → Bool) (l : List UInt8) (k : Nat) (h : k ≤ l.length) : k + run p (l.drop k) ≤ l.length := by
 have := run_le p (l.drop k); rw [List.length_drop] at this; omega
theorem skp_le : ∀ (b : Bool) (l : List UInt8), skp b l ≤ l.length
 | true, [] => Nat.le_refl _
 | false, [] => Nat.le_refl _
 | true, c :: r => by have h1 := skp_le true r; have h2 := skp_le false r; unfold skp; split <;> simp <;> omega
 | false, c :: r => by have h1 := skp_le true r; have h2 := skp_le false r; unfold skp; split <;> (try split) <;> simp <;> omega
theorem skp_true : ∀ (l : List UInt8), skp true l = run nNl l + skp false (l.drop (run nNl l))
 | [] => rfl
 | c :: r => by
  have ih := skp_true r
  unfold run
  by_cases hc : c.toNat = 10
  ·
   have hn : nNl c = false := by simp [nNl, hc]
   have hw : ws c = true := by simp [ws, hc]
   rw [hn, if_neg (by simp), Nat.zero_add, List.drop_zero]
   unfold skp
   rw [if_pos hc, if_pos hw]
  ·
   have hn : nNl c = true := by simp [nNl, hc]
   rw [hn, if_pos rfl, List.drop_succ_cons]
   rw [show skp true (c :: r) = skp true r + 1 by rw [skp]; rw [if_neg hc], ih]; omega
theorem skp_ws {l : List UInt8} {k : Nat} (h : k < l.length) (hw : ws (l.getD k 0) = true) : skp false (l.drop k) = skp false (l.drop (k + 1)) + 1 := by
 rw [drop_cons h, skp, if_pos hw]
theorem skp_com {l : List UInt8} {k : Nat} (h : k < l.length) (hc : (l.getD k 0).toNat = 35) : skp false (l.drop k) = run nNl (l.drop k) + skp false (l.drop (k + run nNl (l.drop k))) := by
 have hn : nNl (l.getD k 0) = true := by simp only [nNl, hc]; decide
 have hw : ws (l.getD k 0) = false := by simp only [ws, hc]; decide
 rw [run_yes h hn]
 rw [drop_cons h, skp, if_neg (by rw [hw]; simp), if_pos hc, skp_true, List.drop_drop]
 rw [show k + (run nNl (l.drop (k + 1)) + 1) = k + 1 + run nNl (l.drop (k + 1)) by omega]
 omega
theorem skp_no {l : List UInt8} {k : Nat} (h : k < l.length) (hw : ws (l.getD k 0) = false) (hc : (l.getD k 0).toNat ≠ 35) : skp false (l.drop k) = 0 := by
 rw [drop_cons h, skp, if_neg (by rw [hw]; simp), if_neg hc]
theorem skp_end {l : List UInt8} {k : Nat} (h : l.length ≤ k) : skp false (l.drop k) = 0 := by
 rw [List.drop_of_length_le h]; rfl
theorem getD_drop (l : List UInt8) (k i : Nat) : (l.drop k).getD i 0 = l.getD (k + i) 0 := by
 rw [gDD, gDD, List.getElem?_drop]
theorem signN_le (l : List UInt8) : signN l ≤ l.length := by
 unfold signN
 simp only []
 cases l with
 | nil => decide
 | cons c r => split <;> (try split) <;> (try split) <;> simp_all <;> omega
end Lx
namespace Bt
structure Token where
 Kind : Int
 Text : List UInt8
 At : Int
instance : Inhabited Token := ⟨⟨0, [], 0⟩⟩
end Bt
namespace Lx
theorem run_pos {p : UInt8 → Bool} {l : List UInt8} (h : 0 < l.length) (hp : p (l.getD 0 0) = true) : 1 ≤ run p l := by
 have := run_yes (p := p) (k := 0) h hp
 rw [List.drop_zero] at this; omega
theorem numN_le (l : List UInt8) : numN l ≤ l.length := by
 unfold numN
 have h1 := run_le isD l
 split
 ·
  have h2 := run_le isD (l.drop (run isD l + 1))
  rw [List.length_drop] at h2
  omega
 ·
  exact h1
theorem numN_pos {l : List UInt8} (h : 0 < l.length) (hp : isD (l.getD 0 0) = true) : 1 ≤ numN l := by
 have := run_pos (p := isD) h hp
 unfold numN
 split <;> omega
theorem tk_ok {l : List UInt8} (h : 0 < l.length) (hk : (tk l).2.2.2.2 = true) : 1 ≤ (tk l).2.2.2.1 ∧ (tk l).2.2.2.1 ≤ l.length := by
 unfold tk at hk ⊢
 split at hk <;> rename_i h1
 ·
  rw [if_pos h1]
  exact ⟨run_pos h (by unfold inN; rw [h1]; rfl), run_le _ _⟩
 ·
  rw [if_neg h1]
  split at hk <;> rename_i h2
  ·
   rw [if_pos h2]; exact ⟨numN_pos h h2, numN_le _⟩
  ·
   rw [if_neg h2]
   split at hk <;> rename_i h3
   ·
    rw [if_pos h3]
    simp only [decide_eq_true_eq] at hk
    exact ⟨by simp, by simp only []; omega⟩
   ·
    rw [if_neg h3]
    simp only [decide_eq_true_eq] at hk
    exact ⟨hk, signN_le l⟩
theorem txt_le (l : List UInt8) : (txt l).length ≤ l.length := by
 unfold txt; rw [List.length_take, List.length_drop]; omega
def stm : Nat → List UInt8 → Nat → List (Bt.Token × Bool)
 | 0, _, _ => []
 | n + 1, s, a => if a < s.length then
   (⟨((tk (s.drop a)).1 : Nat), txt (s.drop a), (a : Nat)⟩, (tk (s.drop a)).2.2.2.2) ::
    (if (tk (s.drop a)).2.2.2.2 then stm n s (a + (tk (s.drop a)).2.2.2.1 + skp false (s.drop (a + (tk (s.drop a)).2.2.2.1))) else [])
  else [(⟨4, [], s.length⟩, true)]
def seqT (s : List UInt8) : List (Bt.Token × Bool) := stm (s.length + 1) s (skp false s)
theorem stm_len : ∀ (n : Nat) (s : List UInt8) (a : Nat), (stm n s a).length ≤ n
 | 0, _, _ => Nat.le_refl _
 | n + 1, s, a => by
  unfold stm
  split
  ·
   split
   ·
    have := stm_len n s (a + (tk (s.drop a)).2.2.2.1 + skp false (s.drop (a + (tk (s.drop a)).2.2.2.1)))
    simp only [List.length_cons]; omega
   ·
    simp
  ·
   simp
theorem stm_end {n : Nat} {s : List UInt8} {a : Nat} (h : s.length ≤ a) : stm (n + 1) s a = [(⟨4, [], s.length⟩, true)] := by
 unfold stm; rw [if_neg (by omega)]
theorem stm_tok {n : Nat} {s : List UInt8} {a : Nat} (h : a < s.length) (hk : (tk (s.drop a)).2.2.2.2 = true) :
  stm (n + 1) s a = (⟨((tk (s.drop a)).1 : Nat), txt (s.drop a), (a : Nat)⟩, true) :: stm n s (a + (tk (s.drop a)).2.2.2.1 + skp false (s.drop (a + (tk (s.drop a)).2.2.2.1))) := by
 rw [stm, if_pos h, hk, if_pos rfl]
theorem stm_bad {n : Nat} {s : List UInt8} {a : Nat} (h : a < s.length) (hk : (tk (s.drop a)).2.2.2.2 = false) :
  stm (n + 1) s a = [(⟨((tk (s.drop a)).1 : Nat), txt (s.drop a), (a : Nat)⟩, false)] := by
 rw [stm, if_pos h, hk, if_neg (by simp)]
def wfT (N : Nat) (t : Bt.Token) : Prop := 0 ≤ t.Kind ∧ t.Kind ≤ 4 ∧ t.Text.length ≤ N ∧ 0 ≤ t.At ∧ t.At ≤ N
theorem tk_kind (l : List UInt8) : (tk l).1 ≤ 3 := by
 unfold tk; split <;> (try split) <;> (try split) <;> simp
theorem wf_tok {s : List UInt8} {a : Nat} (h : a ≤ s.length) : wfT s.length ⟨((tk (s.drop a)).1 : Nat), txt (s.drop a), (a : Nat)⟩ := by
 have h1 := tk_kind (s.drop a)
 have h2 := txt_le (s.drop a)
 rw [List.length_drop] at h2
 refine ⟨?_, ?_, ?_, ?_, ?_⟩ <;> simp only [] <;> omega
theorem wf_end (s : List UInt8) : wfT s.length ⟨4, [], s.length⟩ := by
 refine ⟨?_, ?_, ?_, ?_, ?_⟩ <;> simp
def scan (s : List UInt8) : List Bt.Token × Int × Int :=
 if 65536 < s.length then ([], 8, 0)
 else match (seqT s).find? (fun x => !x.2) with
  | some x => ([], 2, x.1.At)
  | none => ((seqT s).map (·.1), 0, 0)
end Lx
namespace Lx
theorem bad_find : ∀ (n : Nat) (s : List UInt8) (a : Nat) (y : Bt.Token × Bool), y ∈ stm n s a → y.2 = false → (stm n s a).find? (fun x => !x.2) = some y
 | 0, _, _, _, h, _ => by cases h
 | n + 1, s, a, y, h, hy => by
  by_cases ha : a < s.length
  ·
   cases hk : (tk (s.drop a)).2.2.2.2 with
   | true =>
    rw [stm_tok ha hk] at h ⊢
    rcases List.mem_cons.1 h with rfl | h
    ·
     cases hy
    ·
     rw [List.find?_cons_of_neg (by simp)]; exact bad_find n s _ y h hy
   | false =>
    rw [stm_bad ha hk] at h ⊢
    obtain rfl := List.mem_singleton.1 h
    rfl
  ·
   rw [stm_end (by omega)] at h
   obtain rfl := List.mem_singleton.1 h
   cases hy
theorem scan_ok {s : List UInt8} (h : s.length ≤ 65536) (ha : ∀ x ∈ seqT s, x.2 = true) : scan s = ((seqT s).map (·.1), 0, 0) := by
 unfold scan
 rw [if_neg (by omega), List.find?_eq_none.2 (fun x hx => by simp [ha x hx])]
theorem scan_bad {s : List UInt8} (h : s.length ≤ 65536) {y : Bt.Token × Bool} (hy : y ∈ seqT s) (hb : y.2 = false) : scan s = ([], 2, y.1.At) := by
 unfold scan
 rw [if_neg (by omega), show (seqT s).find? (fun x => !x.2) = some y from bad_find _ _ _ _ hy hb]
end Lx
namespace Un
open Go
end Un
namespace Un
open Go
/-! ### for the reference's walks -/
end Un
namespace Bt
structure Node where
  Kind : Int
  Text : List UInt8
  N : Int
  Dim : Int
  At : Int
  Kids : List Node
instance : Inhabited Node := ⟨⟨0, [], 0, 0, 0, []⟩⟩
end Bt
namespace Un
end Un
namespace Pa
open Bt
abbrev Er := Int × Int
abbrev R (α : Type) := Except Er (α × List Token)
def pk (ts : List Token) : Token := ts.headD default
def isS (c : List UInt8) (ts : List Token) : Bool := decide ((pk ts).Kind = 3) && decide ((pk ts).Text = c)
def wrd (k : Int) (t : Token) : Node := ⟨k, t.Text, 0, 0, t.At, []⟩
def fail {α : Type} (ts : List Token) : R α := .error (2, (pk ts).At)
def nameP (ts : List Token) : R Token := if (pk ts).Kind = 0 then .ok (pk ts, ts.tail) else fail ts
def wordP (ts : List Token) : R Node := if (pk ts).Kind = 0 then .ok (wrd 3 (pk ts), ts.tail) else if (pk ts).Kind = 2 then .ok (wrd 4 (pk ts), ts.tail) else fail ts
def isUnit (t : List UInt8) : Bool := !decide ((Un.amt [48] t).2.2 = 6)
def unitOf (ts : List Token) : List UInt8 := if (pk ts).Kind = 0 ∧ isUnit (pk ts).Text = true then (pk ts).Text else []
def unitRest (ts : List Token) : List Token := if (pk ts).Kind = 0 ∧ isUnit (pk ts).Text = true then ts.tail else ts
def amtP (ts : List Token) : R Node :=
  let a := Un.amt (pk ts).Text (unitOf ts.tail)
  if a.2.2 = 0 then .ok (⟨5, [], a.1, a.2.1, (pk ts).At, []⟩, unitRest ts.tail) else .error (7, (pk ts).At)
def grp (at_ : Int) (ks : List Node) : Node := ⟨6, [], 0, 0, at_, ks⟩
mutual
def valP : Nat → Nat → List Token → R Node
  | 0, _, _ => .error (0, 0)
  | f + 1, g, ts =>
    if (pk ts).Kind = 1 then amtP ts
    else if isS [40] ts = true then
      (if 40 ≤ g then .error (8, (pk ts).At) else match grpP f (g + 1) ts.tail with
        | .error e => .error e
        | .ok (xs, r) => .ok (grp (pk ts).At xs, r))
    else wordP ts
def grpP : Nat → Nat → List Token → R (List Node)
  | 0, _, _ => .error (0, 0)
  | f + 1, g, ts => match valP f g ts with
    | .error e => .error e
    | .ok (x, r) =>
      if isS [41] r = true then .ok ([x], r.tail)
      else if isS [44] r = true then (match grpP f g r.tail with
        | .error e => .error e
        | .ok (xs, r') => .ok (x :: xs, r'))
      else fail r
end
def many (c : List UInt8) (p : List Token → R Node) : Nat → List Token → R (List Node)
  | 0, _ => .error (0, 0)
  | f + 1, ts => if isS c ts = true then .ok ([], ts.tail) else match p ts with
    | .error e => .error e
    | .ok (x, r) => (match many c p f r with
      | .error e => .error e
      | .ok (xs, r') => .ok (x :: xs, r'))
def val0 (ts : List Token) : R Node := valP (2 * ts.length) 0 ts
def propP (ts : List Token) : R Node := match nameP ts with
  | .error e => .error e
  | .ok (t, r) => (match many [59] val0 r.length r with
    | .error e => .error e
    | .ok (xs, r') => .ok (⟨2, t.Text, 0, 0, t.At, xs⟩, r'))
def declP (ts : List Token) : R Node := match nameP ts with
  | .error e => .error e
  | .ok (t, r) => (match many [123] wordP r.length r with
    | .error e => .error e
    | .ok (xs, r') => (match many [125] propP r'.length r' with
      | .error e => .error e
      | .ok (ys, r'') => .ok (⟨1, t.Text, 0, 0, t.At, xs ++ ys⟩, r'')))
def fileP : Nat → List Token → R (List Node)
  | 0, _ => .error (0, 0)
  | f + 1, ts => if (pk ts).Kind = 4 then .ok ([], ts) else match declP ts with
    | .error e => .error e
    | .ok (x, r) => (match fileP f r with
      | .error e => .error e
      | .ok (xs, r') => .ok (x :: xs, r'))
def fileN (ts : List Token) : R Node := match fileP (ts.length + 1) ts with
  | .error e => .error e
  | .ok (xs, r) => .ok (⟨0, [], 0, 0, 0, xs⟩, r)
def parseT (ts : List Token) : Node × Int × Int := match fileN ts with
  | .error e => (default, e.1, e.2)
  | .ok (x, _) => (x, 0, 0)
def parse (s : List UInt8) : Node × Int × Int :=
  if (Lx.scan s).2.1 = 0 then parseT (Lx.scan s).1 else (default, (Lx.scan s).2.1, (Lx.scan s).2.2)
def good : List Token → Prop
  | [] => False
  | [t] => t.Kind = 4
  | _ :: u :: r => good (u :: r)
end Pa
namespace Bt
structure Nd where
  Kind : Int
  n : Int
  of_ : Int
  of2 : Int
  At : Int
  name : Token
  owner : Token
  kids : List Nd
instance : Inhabited Nd := ⟨⟨0, 0, 0, 0, 0, default, default, []⟩⟩
structure Prm where
  name : Token
  kind : Int
instance : Inhabited Prm := ⟨⟨default, 0⟩⟩
structure Fn where
  name : Token
  params : List Prm
  result : Int
  body : Nd
instance : Inhabited Fn := ⟨⟨default, [], 0, default⟩⟩
structure Cl where
  link : Token
  cond : Nd
  value : Nd
instance : Inhabited Cl := ⟨⟨default, default, default⟩⟩
end Bt
namespace Ru
open Bt Pa
abbrev sIf : List UInt8 := [105, 102]
abbrev sThen : List UInt8 := [116, 104, 101, 110]
abbrev sElse : List UInt8 := [101, 108, 115, 101]
abbrev sOr : List UInt8 := [111, 114]
abbrev sAnd : List UInt8 := [97, 110, 100]
abbrev sPlus : List UInt8 := [43]
abbrev sMinus : List UInt8 := [45]
abbrev sStar : List UInt8 := [42]
abbrev sSlash : List UInt8 := [47]
abbrev sNot : List UInt8 := [110, 111, 116]
abbrev sLt : List UInt8 := [60]
abbrev sLe : List UInt8 := [60, 61]
abbrev sGt : List UInt8 := [62]
abbrev sGe : List UInt8 := [62, 61]
abbrev sEq : List UInt8 := [61, 61]
abbrev sNe : List UInt8 := [33, 61]
abbrev sLp : List UInt8 := [40]
abbrev sRp : List UInt8 := [41]
abbrev sComma : List UInt8 := [44]
abbrev sColon : List UInt8 := [58]
abbrev sIs : List UInt8 := [61]
abbrev sDef : List UInt8 := [100, 101, 102]
abbrev sWhen : List UInt8 := [119, 104, 101, 110]
abbrev sSet : List UInt8 := [115, 101, 116]
abbrev sTo : List UInt8 := [116, 111]
abbrev sInt : List UInt8 := [105, 110, 116]
abbrev sBool : List UInt8 := [98, 111, 111, 108]
abbrev sVolume : List UInt8 := [118, 111, 108, 117, 109, 101]
abbrev sLevel : List UInt8 := [108, 101, 118, 101, 108]
abbrev sOwned : List UInt8 := [111, 119, 110, 101, 100]
abbrev sPos : List UInt8 := [112, 111, 115]
abbrev sCrest : List UInt8 := [99, 114, 101, 115, 116]
abbrev sHour : List UInt8 := [104, 111, 117, 114]
abbrev sDay : List UInt8 := [100, 97, 121]
abbrev sMonth : List UInt8 := [109, 111, 110, 116, 104]
abbrev sTrue : List UInt8 := [116, 114, 117, 101]
abbrev sFalse : List UInt8 := [102, 97, 108, 115, 101]
abbrev S := List Token × Int
abbrev R (α : Type) := Except (Int × Int) (α × S)
def bnd {α β : Type} (x : R α) (k : α → S → R β) : R β := match x with
  | .error e => .error e
  | .ok (a, s) => k a s
def kw (t : List UInt8) : Bool := [sDef, sInt, sBool, sWhen, sThen, sSet, sTo, sIf, sElse, sOr, sAnd, sNot, sTrue, sFalse, sVolume, sLevel, sOwned, sPos, sCrest, sHour, sDay, sMonth].contains t
def factOf (t : List UInt8) : Option Int :=
  if t = sVolume then some 0 else if t = sLevel then some 1 else if t = sOwned then some 2 else if t = sPos then some 3 else if t = sHour then some 4 else if t = sDay then some 5 else if t = sMonth then some 6 else if t = sCrest then some 7 else none
def isT (c : List UInt8) (ts : List Token) : Bool := (decide ((pk ts).Kind = 0) || decide ((pk ts).Kind = 3)) && decide ((pk ts).Text = c)
def fail {α : Type} (s : S) : R α := .error ((pk s.1).At, s.2)
def exp (c : List UInt8) (s : S) : R Unit := if isT c s.1 = true then .ok ((), s.1.tail, s.2) else fail s
def nameR (s : S) : R Token := if (pk s.1).Kind = 0 then .ok (pk s.1, s.1.tail, s.2) else fail s
def identR (s : S) : R Token := if kw (pk s.1).Text = true then fail s else nameR s
def kindR (s : S) : R Int := if isT sInt s.1 = true then .ok (0, s.1.tail, s.2) else bnd (exp sBool s) fun _ s => .ok (1, s)
def nd (k a : Int) (ks : List Nd) : Nd := ⟨k, 0, 0, 0, a, default, default, ks⟩
def numR (s : S) : R Nd :=
  let a := Un.amt (pk s.1).Text (unitOf s.1.tail)
  .ok (⟨0, a.1, 0, 0, (pk s.1).At, default, default, []⟩, unitRest s.1.tail, if a.2.2 ≠ 0 ∧ s.2 < 0 then (pk s.1).At else s.2)
def truth (t : Token) : Nd := nd 10 t.At [nd 0 t.At [], ⟨0, if t.Text = sFalse then 1 else 0, 0, 0, t.At, default, default, []⟩]
def factR (t : Token) (k : Int) (s : S) : R Nd :=
  if k = 4 ∨ k = 5 ∨ k = 6 then .ok (⟨1, k, 0, 0, t.At, default, default, []⟩, s)
  else bnd (exp sLp s) fun _ s => bnd (nameR s) fun nm s =>
    if k = 2 then bnd (exp sComma s) fun _ s => bnd (nameR s) fun ow s => bnd (exp sRp s) fun _ s => .ok (⟨1, k, 0, 0, t.At, nm, ow, []⟩, s)
    else bnd (exp sRp s) fun _ s => .ok (⟨1, k, 0, 0, t.At, nm, default, []⟩, s)
def opOf (n : Nat) (ts : List Token) : Option Int :=
  if n = 0 then (if isT sOr ts then some 12 else none)
  else if n = 1 then (if isT sAnd ts then some 11 else none)
  else if n = 2 then (if isT sPlus ts then some 4 else if isT sMinus ts then some 5 else none)
  else (if isT sStar ts then some 6 else if isT sSlash ts then some 7 else none)
def cmpSign (t : List UInt8) : Bool := [sLt, sLe, sGt, sGe, sEq, sNe].contains t
def rel (op : List UInt8) (x y : Nd) : Nd :=
  if op = sLt then nd 8 x.At [x, y] else if op = sLe then nd 9 x.At [x, y] else if op = sGt then nd 8 x.At [y, x] else if op = sGe then nd 9 x.At [y, x]
  else if op = sNe then nd 3 x.At [nd 10 x.At [x, y]] else nd 10 x.At [x, y]
mutual
def expr : Nat → S → R Nd
  | 0, _ => .error (0, 0)
  | f + 1, s =>
    if isT sIf s.1 = true then
      bnd (expr f (s.1.tail, s.2)) fun x s1 => bnd (exp sThen s1) fun _ s2 => bnd (expr f s2) fun y s3 => bnd (exp sElse s3) fun _ s4 => bnd (expr f s4) fun z s5 => .ok (nd 13 (pk s.1).At [x, y, z], s5)
    else level f 0 s
def level : Nat → Nat → S → R Nd
  | 0, _, _ => .error (0, 0)
  | f + 1, n, s => bnd (below f n s) fun x s1 => lvl f n x s1
def lvl : Nat → Nat → Nd → S → R Nd
  | 0, _, _, _ => .error (0, 0)
  | f + 1, n, x, s => match opOf n s.1 with
    | none => .ok (x, s)
    | some k => bnd (below f n (s.1.tail, s.2)) fun y s1 => lvl f n (nd k x.At [x, y]) s1
def below : Nat → Nat → S → R Nd
  | 0, _, _ => .error (0, 0)
  | f + 1, n, s => if n = 1 then neg f s else if n = 3 then factor f s else level f (n + 1) s
def neg : Nat → S → R Nd
  | 0, _ => .error (0, 0)
  | f + 1, s => if isT sNot s.1 = true then bnd (neg f (s.1.tail, s.2)) fun x s1 => .ok (nd 3 (pk s.1).At [x], s1) else cmp f s
def cmp : Nat → S → R Nd
  | 0, _ => .error (0, 0)
  | f + 1, s => bnd (level f 2 s) fun x s1 =>
    if (pk s1.1).Kind = 3 ∧ cmpSign (pk s1.1).Text = true then bnd (level f 2 (s1.1.tail, s1.2)) fun y s2 => .ok (rel (pk s1.1).Text x y, s2) else .ok (x, s1)
def factor : Nat → S → R Nd
  | 0, _ => .error (0, 0)
  | f + 1, s => if isT sMinus s.1 = true then bnd (factor f (s.1.tail, s.2)) fun x s1 => .ok (nd 2 (pk s.1).At [x], s1) else prim f s
def prim : Nat → S → R Nd
  | 0, _ => .error (0, 0)
  | f + 1, s => if (pk s.1).Kind = 1 then numR s else if (pk s.1).Kind = 0 then word f s
    else bnd (exp sLp s) fun _ s1 => bnd (expr f s1) fun x s2 => bnd (exp sRp s2) fun _ s3 => .ok ({ x with At := (pk s.1).At }, s3)
def word : Nat → S → R Nd
  | 0, _ => .error (0, 0)
  | f + 1, s =>
    if (pk s.1).Text = sTrue ∨ (pk s.1).Text = sFalse then .ok (truth (pk s.1), s.1.tail, s.2)
    else match factOf (pk s.1).Text with
      | some k => factR (pk s.1) k (s.1.tail, s.2)
      | none => bnd (identR s) fun nm s1 =>
        if isT sLp s1.1 = true then
          (if isT sRp s1.1.tail = true then .ok (⟨14, 0, 0, 0, (pk s.1).At, nm, default, []⟩, s1.1.tail.tail, s1.2)
          else bnd (args f (s1.1.tail, s1.2)) fun ks s2 => .ok (⟨14, 0, 0, 0, (pk s.1).At, nm, default, ks⟩, s2))
        else .ok (⟨15, 0, 0, 0, (pk s.1).At, nm, default, []⟩, s1)
def args : Nat → S → R (List Nd)
  | 0, _ => .error (0, 0)
  | f + 1, s => bnd (expr f s) fun x s1 =>
    if isT sComma s1.1 = true then bnd (args f (s1.1.tail, s1.2)) fun xs s2 => .ok (x :: xs, s2)
    else bnd (exp sRp s1) fun _ s2 => .ok ([x], s2)
end
def fu (ts : List Token) : Nat := 20 * ts.length + 20
def expr0 (s : S) : R Nd := expr (fu s.1) s
def prms : Nat → S → R (List Prm)
  | 0, _ => .error (0, 0)
  | f + 1, s => bnd (identR s) fun nm s1 => bnd (exp sColon s1) fun _ s2 => bnd (kindR s2) fun k s3 =>
    if isT sComma s3.1 = true then bnd (prms f (s3.1.tail, s3.2)) fun xs s4 => .ok (⟨nm, k⟩ :: xs, s4)
    else bnd (exp sRp s3) fun _ s4 => .ok ([⟨nm, k⟩], s4)
def funR (s : S) : R Fn := bnd (identR s) fun nm s1 => bnd (exp sLp s1) fun _ s2 =>
  bnd (if isT sRp s2.1 = true then .ok ([], s2.1.tail, s2.2) else prms s2.1.length s2) fun ps s3 => bnd (exp sColon s3) fun _ s4 => bnd (kindR s4) fun k s5 => bnd (exp sIs s5) fun _ s6 => bnd (expr0 s6) fun b s7 => .ok (⟨nm, ps, k, b⟩, s7)
def clR (s : S) : R Cl := bnd (expr0 s) fun c s1 => bnd (exp sThen s1) fun _ s2 => bnd (exp sSet s2) fun _ s3 => bnd (nameR s3) fun l s4 => bnd (exp sTo s4) fun _ s5 => bnd (expr0 s5) fun v s6 => .ok (⟨l, c, v⟩, s6)
def defs : Nat → S → R (List Fn)
  | 0, _ => .error (0, 0)
  | f + 1, s => if isT sDef s.1 = true then bnd (funR (s.1.tail, s.2)) fun x s1 => bnd (defs f s1) fun xs s2 => .ok (x :: xs, s2) else .ok ([], s)
def whens : Nat → S → R (List Cl)
  | 0, _ => .error (0, 0)
  | f + 1, s => if isT sWhen s.1 = true then bnd (clR (s.1.tail, s.2)) fun x s1 => bnd (whens f s1) fun xs s2 => .ok (x :: xs, s2) else .ok ([], s)
def prgR (s : S) : R (List Fn × List Cl) := bnd (defs s.1.length s) fun fs s1 => bnd (whens s1.1.length s1) fun cs s2 => if (pk s2.1).Kind = 4 then .ok ((fs, cs), s2) else fail s2
def parse (ts : List Token) : (List Fn × List Cl) × Int × Int := match prgR (ts, -1) with
  | .error e => if 0 ≤ e.2 then (([], []), 7, e.2) else (([], []), 2, e.1)
  | .ok (p, s) => if 0 ≤ s.2 then (([], []), 7, s.2) else (p, 0, 0)
end Ru
