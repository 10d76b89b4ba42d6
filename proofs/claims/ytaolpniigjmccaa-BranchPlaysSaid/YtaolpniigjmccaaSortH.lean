/-
  slices.Sort and slices.Compact at []uint64, over a slice of the call's own. The library's own text is walked; the lines are those of the kit's worked walk at []int, turned. Condition: fewer than 2^62 elements; the slice's cells hold the numbers.
-/
import Derived.Test.YtaolpniigjmccaaSortF
import Derived.Test.YtaolpniigjmccaaSortG
import Derived.Sort.OwnSortedInts
namespace Go.Proofs.Ytaolpniigjmccaa.All
open Go.RowKit Go.Sort
set_option linter.unusedVariables false
set_option linter.unusedSimpArgs false

theorem holds_of_blockU {w : World} {g : Nat} {cur : Array Value} {e : TypeId} {ss : List Int} (hb : w.heap[g]? = some (.cells cur e (0, 0))) (ht : cur.toList.take ss.length = ss.map (Value.int .u64)) : Holds (Value.int .u64) w g 0 ss.toArray := by
  intro j hj
  have hj' : j < ss.length := by simpa using hj
  refine ⟨?_, by simp [World.frozen?, hb]⟩
  have h1 : (cur.toList.take ss.length)[j]? = (ss.map (Value.int .u64))[j]? := by rw [ht]
  rw [List.getElem?_take_of_lt hj'] at h1
  simp only [World.cell?, hb, Nat.zero_add]
  simp only [Option.isSome_none, Bool.false_eq_true, if_false]
  rw [← Array.getElem?_toList, h1]
  simp [hj']
theorem heap_sortedU {w : World} {g n : Nat} {os : Array Obj} {cur : Array Value} {e : TypeId} {fr : Nat × Nat} (d : Array Int) (hb : w.heap[g]? = some (.cells cur e fr)) :
    (grow (putRow (Value.int .u64) (Sort.ahead w n) g 0 d) os).heap[g]? = some (.cells (putCells (Value.int .u64) 0 d cur) e fr) := by
  have hg : g < w.heap.size := (Array.getElem?_eq_some_iff.1 hb).1
  rw [heap_grow_old _ _ (by simpa using hg)]
  simp [putRow, mapBlock, Sort.ahead, Array.getElem?_modify, hb, onCells]
theorem grownBy_sortedU {w : World} {g n : Nat} {os : Array Obj} (d : Array Int) : w.grownBy (grow (putRow (Value.int .u64) (Sort.ahead w n) g 0 d) os) (some g) := by
  refine ⟨rfl, rfl, rfl, by simp, fun k hk hne => ?_⟩
  rw [heap_grow_old _ _ (by simpa using hk)]
  have : g ≠ k := fun e => hne (by rw [e])
  simp [putRow, mapBlock, Sort.ahead, Array.getElem?_modify, this]
theorem take_putCellsU (cur : Array Value) (ts : List Int) (h : ts.length ≤ cur.size) : (putCells (Value.int .u64) 0 ts.toArray cur).toList.take ts.length = ts.map (Value.int .u64) := by
  apply List.ext_getElem?
  intro j
  by_cases hj : j < ts.length
  · rw [List.getElem?_take_of_lt hj, Array.getElem?_toList]
    simp [putCells, hj, show j < cur.size by omega]
  · rw [List.getElem?_take_eq_none (by omega), List.getElem?_eq_none (by simp; omega)]
/-- BEHIND THE SORT the same slice owns the sorted list. -/
theorem ownsRow_sortedU {w : World} {base g cap n : Nat} {e : TypeId} {os : Array Obj} {cur : Array Value} {ss ts : List Int} (hl : ts.length = ss.length) (hbase : base ≤ g) (hb : w.heap[g]? = some (.cells cur e (0, 0)))
    (h1 : ss.length ≤ cap) (h2 : cap ≤ maxLen) (h3 : cur.size = cap * 1) :
    (grow (putRow (Value.int .u64) (Sort.ahead w n) g 0 ts.toArray) os).ownsRow base e 1 (.slice (some ⟨g, 0, none⟩) ss.length cap) ss.length (ts.map (Value.int .u64)) :=
  ⟨by simp [hl], .inr ⟨g, cap, _, rfl, hbase, heap_sortedU _ hb, h1, h2, by simp [putCells, h3], by rw [Nat.mul_one, ← hl]; exact take_putCellsU cur ts (by omega)⟩⟩
/-- slices.Sort over a row of the call's own. -/
theorem sort_own {W : World} {base : Nat} {v : Value} {xs : List Int} (h : W.ownsRow base 23 1 v xs.length (xs.map (Value.int .u64))) (hl : xs.length < 4611686018427387904) :
    Calls Try.prog 32 #[v] W fun e w' => e = .returned (.tuple #[]) ∧ w'.ownsRow base 23 1 v xs.length ((xs.mergeSort fun x y => decide (x ≤ y)).map (Value.int .u64)) ∧ W.grownBy w' v.ownBlock := by
  rcases h.2 with ⟨rfl, h0⟩ | ⟨g, cap, cur, rfl, hb, hg, hc, hm, hs, ht⟩
  · have : xs = [] := List.length_eq_zero_iff.1 h0
    subst this
    exact (Su.Sort_int_nil none 0 W).mono fun e w' ⟨he, hw⟩ => ⟨he, by subst hw; exact ⟨by simp, .inl ⟨rfl, rfl⟩⟩, by subst hw; exact ⟨rfl, rfl, rfl, Nat.le_refl _, fun _ _ _ => rfl⟩⟩
  · rw [Nat.mul_one] at ht
    refine (Su.slices_Sort_int g 0 cap xs W (holds_of_blockU hg ht) (Array.getElem?_eq_some_iff.1 hg).1 hl).mono fun e w' ⟨he, n, os, hw⟩ => ⟨he, ?_, ?_⟩
    · subst hw
      exact ownsRow_sortedU (by rw [List.length_mergeSort]) hb hg hc hm hs
    · subst hw
      exact grownBy_sortedU _
/-- slices.Compact over a row of the call's own. -/
theorem compact_own {W : World} {base : Nat} {v : Value} {xs : List Int} (h : W.ownsRow base 23 1 v xs.length (xs.map (Value.int .u64))) (hl : xs.length ≤ 9223372036854775807) (hk : (Lib.compact xs).length ≤ xs.length) :
    Calls Try.prog 33 #[v] W fun e w' => ∃ v', e = .returned v' ∧ w'.ownsRow base 23 1 v' (Lib.compact xs).length ((Lib.compact xs).map (Value.int .u64)) ∧ W.grownBy w' v.ownBlock := by
  rcases h.2 with ⟨rfl, h0⟩ | ⟨g, cap, cur, rfl, hb, hg, hc, hm, hs, ht⟩
  · have : xs = [] := List.length_eq_zero_iff.1 h0
    subst this
    exact (Su.Compact_empty none 0 W).mono fun e w' ⟨he, hw⟩ => ⟨_, he, by subst hw; exact ⟨by simp [Lib.compact, Lib.compactUpTo], .inl ⟨rfl, by simp [Lib.compact, Lib.compactUpTo]⟩⟩, by subst hw; exact ⟨rfl, rfl, rfl, Nat.le_refl _, fun _ _ _ => rfl⟩⟩
  · rw [Nat.mul_one] at ht
    refine (Su.Compact g 0 cap xs W (holds_of_blockU hg ht) hl hc).mono fun e w' ⟨he, q, hw⟩ => ⟨_, he, ?_, ?_⟩
    · subst hw
      have hz := heap_sortedU (n := q) (os := #[]) (Lib.compact xs ++ List.replicate (xs.length - (Lib.compact xs).length) 0).toArray hg
      rw [grow_empty] at hz
      refine ⟨by simp, .inr ⟨g, cap, _, rfl, hb, hz, by omega, hm, by simp [putCells, hs], ?_⟩⟩
      have htk := take_putCellsU cur (Lib.compact xs ++ List.replicate (xs.length - (Lib.compact xs).length) 0) (by rw [List.length_append, List.length_replicate]; omega)
      have := congrArg (List.take (Lib.compact xs).length) htk
      rw [List.take_take, Nat.min_eq_left (by rw [List.length_append]; omega), List.map_append, List.take_left' (by simp)] at this
      rw [Nat.mul_one]
      exact this
    · subst hw
      have := grownBy_sortedU (w := W) (g := g) (n := q) (os := #[]) (Lib.compact xs ++ List.replicate (xs.length - (Lib.compact xs).length) 0).toArray
      rw [grow_empty] at this
      exact this
end Go.Proofs.Ytaolpniigjmccaa.All
