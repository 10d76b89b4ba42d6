/-
  slices.Sort and slices.Compact at []int over a row of the call's own (the shelf's contracts, laid). No condition.
-/
import Derived.Test.YtonlbeonblpblaaShelf
import Derived.Test.YtonlbeonblpblaaMem
import Derived.Sort.OwnSortedInts
import Derived.Lib.SlicesCompact
namespace Go.Proofs.Ytonlbeonblpblaa.All
open Go.RowKit Go.Lib Go.Sort Go.Shelf Go.Proofs.YtonlbeonblpblaaW.PrintWords Go.Proofs.Ytonlbeonblpblaa.Wd
set_option linter.unusedVariables false
set_option linter.unusedSimpArgs false
/-- slices.Sort over a row of the call's own. -/
theorem sort_own {W : World} {base : Nat} {v : Value} {xs : List Int} (h : W.ownsRow base 3 1 v xs.length (xs.map (Value.int .i64))) (hl : xs.length < 4611686018427387904) :
    Calls Try.prog 41 #[v] W fun e w' => e = .returned (.tuple #[]) ∧ w'.ownsRow base 3 1 v xs.length ((xs.mergeSort fun x y => decide (x ≤ y)).map (Value.int .i64)) ∧ W.grownBy w' v.ownBlock := by
  rcases h.2 with ⟨rfl, h0⟩ | ⟨g, cap, cur, rfl, hb, hg, hc, hm, hs, ht⟩
  · have : xs = [] := List.length_eq_zero_iff.1 h0
    subst this
    exact (Try.slices_Sort_int_none none 0 W).mono fun e w' ⟨he, hw⟩ => ⟨he, by subst hw; exact ⟨by simp, .inl ⟨rfl, rfl⟩⟩, by subst hw; exact ⟨rfl, rfl, rfl, Nat.le_refl _, fun _ _ _ => rfl⟩⟩
  · rw [Nat.mul_one] at ht
    refine (Try.slices_Sort_int g 0 cap xs W (holds_of_blockI hg ht) (Array.getElem?_eq_some_iff.1 hg).1 hl).mono fun e w' ⟨he, n, os, hw⟩ => ⟨he, ?_, ?_⟩
    · subst hw
      exact ownsRow_sortedI (by rw [List.length_mergeSort]) hb hg hc hm hs
    · subst hw
      exact grownBy_sortedI _
/-- slices.Compact over a row of the call's own. -/
theorem compact_own {W : World} {base : Nat} {v : Value} {xs : List Int} (h : W.ownsRow base 3 1 v xs.length (xs.map (Value.int .i64))) (hl : xs.length ≤ 9223372036854775807) (hk : (Lib.compact xs).length ≤ xs.length) :
    Calls Try.prog 42 #[v] W fun e w' => ∃ v', e = .returned v' ∧ w'.ownsRow base 3 1 v' (Lib.compact xs).length ((Lib.compact xs).map (Value.int .i64)) ∧ W.grownBy w' v.ownBlock := by
  rcases h.2 with ⟨rfl, h0⟩ | ⟨g, cap, cur, rfl, hb, hg, hc, hm, hs, ht⟩
  · have : xs = [] := List.length_eq_zero_iff.1 h0
    subst this
    exact (Try.slices_Compact_int_empty none 0 W).mono fun e w' ⟨he, hw⟩ => ⟨_, he, by subst hw; exact ⟨by simp [Lib.compact, Lib.compactUpTo], .inl ⟨rfl, by simp [Lib.compact, Lib.compactUpTo]⟩⟩, by subst hw; exact ⟨rfl, rfl, rfl, Nat.le_refl _, fun _ _ _ => rfl⟩⟩
  · rw [Nat.mul_one] at ht
    refine (Try.slices_Compact_int g 0 cap xs W (holds_of_blockI hg ht) hl hc).mono fun e w' ⟨he, q, hw⟩ => ⟨_, he, ?_, ?_⟩
    · subst hw
      have hz := heap_sortedI (n := q) (os := #[]) (Lib.compact xs ++ List.replicate (xs.length - (Lib.compact xs).length) 0).toArray hg
      rw [grow_empty] at hz
      refine ⟨by simp, .inr ⟨g, cap, _, rfl, hb, hz, by omega, hm, by simp [putCells, hs], ?_⟩⟩
      have htk := take_putCellsI cur (Lib.compact xs ++ List.replicate (xs.length - (Lib.compact xs).length) 0) (by rw [List.length_append, List.length_replicate]; omega)
      have := congrArg (List.take (Lib.compact xs).length) htk
      rw [List.take_take, Nat.min_eq_left (by rw [List.length_append]; omega), List.map_append, List.take_left' (by simp)] at this
      rw [Nat.mul_one]
      exact this
    · subst hw
      have := grownBy_sortedI (w := W) (g := g) (n := q) (os := #[]) (Lib.compact xs ++ List.replicate (xs.length - (Lib.compact xs).length) 0).toArray
      rw [grow_empty] at this
      exact this
end Go.Proofs.Ytonlbeonblpblaa.All
