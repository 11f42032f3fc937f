/- The library's SortFunc, laid at this program. Conditions: those of each theorem. -/
import Derived.Test.YtlljbndnodbecaaProg
import Derived.Test.YtlljbndnodbecaaWalkA
import Derived.Test.YtlljbndnodbecaaPlainF
import Derived.Test.YtlljbndnodbecaaCore12
import Derived.Shelf.Lay
import Derived.Ground.SlsfProg
import Derived.Ground.NamesProg
namespace Go.Proofs
open Go.Shelf Go.RowKit Go.Lib Go.Sort
shelf_lay_g SlLaysF0.n6 Slsf 6 at Try 22 as Try.sortG
shelf_lay_g SlLaysF0.n6 Slsf 6 at Try 31 as Try.sortR
end Go.Proofs
namespace Go.Proofs.Ytlljbndnodbecaa
open Go Go.K Go.RowKit Go.Sort Go.Proofs
theorem sortG_c {B : Bs} {Φ : Hp} {C : List Chunk} {v : Value} {n : Nat} {L : List Bt.Gram} (hL : L.length = n) (hn : n ≤ 1000000) (w : World) (hW : (St B Φ (.row v 29 5 n (flat L) :: C)).p w) :
    Calls Try.prog 22 #[v, .func (.func 23) #[] #[]] w fun e w' => ∃ d : {d : List Bt.Gram // d.Perm L ∧ d.Pairwise (fun x y => ltOf Se.cG y x = false)}, e = .returned (.tuple #[]) ∧ (St B Φ (.row v 29 5 n (flat d.1) :: C)).p w' := by
  have hs : RowS (hp w) v 29 5 n (flat L) := hW.sat _ (List.mem_cons_self ..)
  rcases hs.2 with ⟨rfl, h0⟩ | ⟨g, cap, cur, rfl, h2, h3, h4, h5, h6⟩
  · subst h0
    obtain rfl : L = [] := List.length_eq_zero_iff.1 hL
    have h := AnyF.slices_SortFunc_none Try.sortG none 0 (.func (.func 23) #[] #[]) w
    change Calls Try.prog 22 _ _ _ at h
    exact h.mono fun e w' ⟨he, hw⟩ => ⟨⟨[], List.Perm.refl _, List.Pairwise.nil⟩, he, by rw [hw]; exact hW⟩
  · have eg : ∀ args w, (callFunc 23 args).run Try.prog w = .ok (.enter 23 args) w := enters_of Try.func23 (by kernel_rfl) rfl
    have hb : g < w.heap.size := lt_of_some h2
    have hH := holdsK_row (α := Bt.Gram) even29 hL hs
    have h := AnyQ.slices_SortFunc Try.sortG 5 Try.isAgg29 Try.sizeOf29 (RepE.cells (α := Bt.Gram)) even29 (fun x u hu => by
      simp only [RepE.cells, List.mem_cons, List.not_mem_nil, or_false] at hu
      rcases hu with rfl | rfl | rfl | rfl | rfl <;> rfl) Se.cG Se.swoG 23 #[] g 0 cap L.toArray w eg (cmpLays_of fun W x y => compare_c W (hp W) (Hp.le_refl _)) hH hb (by rw [List.size_toArray]; omega)
    change Calls Try.prog 22 _ _ _ at h
    rw [List.size_toArray, hL] at h
    refine h.mono fun e w' ⟨he, d', m, os, hp', hs', hw⟩ => ?_
    have hds : d'.size = n := by rw [hp'.1, List.size_toArray, hL]
    refine ⟨⟨d'.toList, perm_of_permIn (by rw [List.size_toArray, hL]; exact hp'), pairwise_of_sortedIn (by rw [hds]; exact hs')⟩, he, ?_⟩
    rw [hw]
    exact StP.sorted even29 hW 0 rfl hds
theorem sortR_c {B : Bs} {Φ : Hp} {C : List Chunk} {v : Value} {n : Nat} {L : List Bt.Reading} (hL : L.length = n) (hn : n ≤ 1000000) (w : World) (hW : (St B Φ (.row v 49 4 n (flat L) :: C)).p w) :
    Calls Try.prog 31 #[v, .func (.func 32) #[] #[]] w fun e w' => ∃ d : {d : List Bt.Reading // d.Perm L ∧ d.Pairwise (fun x y => ltOf Se.cR y x = false)}, e = .returned (.tuple #[]) ∧ (St B Φ (.row v 49 4 n (flat d.1) :: C)).p w' := by
  have hs : RowS (hp w) v 49 4 n (flat L) := hW.sat _ (List.mem_cons_self ..)
  rcases hs.2 with ⟨rfl, h0⟩ | ⟨g, cap, cur, rfl, h2, h3, h4, h5, h6⟩
  · subst h0
    obtain rfl : L = [] := List.length_eq_zero_iff.1 hL
    have h := AnyF.slices_SortFunc_none Try.sortR none 0 (.func (.func 32) #[] #[]) w
    change Calls Try.prog 31 _ _ _ at h
    exact h.mono fun e w' ⟨he, hw⟩ => ⟨⟨[], List.Perm.refl _, List.Pairwise.nil⟩, he, by rw [hw]; exact hW⟩
  · have eg : ∀ args w, (callFunc 32 args).run Try.prog w = .ok (.enter 32 args) w := enters_of Try.func32 (by kernel_rfl) rfl
    have hb : g < w.heap.size := lt_of_some h2
    have hH := holdsK_row (α := Bt.Reading) even49 hL hs
    have h := AnyQ.slices_SortFunc Try.sortR 4 Try.isAgg49 Try.sizeOf49 (RepE.cells (α := Bt.Reading)) even49 (fun x u hu => by
      simp only [RepE.cells, List.mem_cons, List.not_mem_nil, or_false] at hu
      rcases hu with rfl | rfl | rfl | rfl <;> rfl) Se.cR Se.swoR 32 #[] g 0 cap L.toArray w eg (cmpLays_of fun W x y => cmpR_c W (hp W) (Hp.le_refl _)) hH hb (by rw [List.size_toArray]; omega)
    change Calls Try.prog 31 _ _ _ at h
    rw [List.size_toArray, hL] at h
    refine h.mono fun e w' ⟨he, d', m, os, hp', hs', hw⟩ => ?_
    have hds : d'.size = n := by rw [hp'.1, List.size_toArray, hL]
    refine ⟨⟨d'.toList, perm_of_permIn (by rw [List.size_toArray, hL]; exact hp'), pairwise_of_sortedIn (by rw [hds]; exact hs')⟩, he, ?_⟩
    rw [hw]
    exact StP.sorted even49 hW 0 rfl hds
end Go.Proofs.Ytlljbndnodbecaa
