/-
  Plain: a forked branch's base is among the bases. No condition.
-/
import Derived.Test.YtaolpniigjmccaaDropsP
import Derived.Test.YtaolpniigjmccaaBases
namespace Go.Proofs.Ytaolpniigjmccaa.All
open Go.RowKit Go.Proofs.YtaolpniigjmccaaW.PrintWords Go.Proofs.Ytaolpniigjmccaa.Wd
set_option linter.unusedVariables false
theorem mem_upTo (d : Array Int) : ∀ m j, j < m → d[j]! ∈ Lib.compactUpTo d m
  | 0, j, h => absurd h (Nat.not_lt_zero _)
  | m + 1, j, h => by
    rw [Lib.compactUpTo_succ]
    by_cases hj : j < m
    · exact List.mem_append_left _ (mem_upTo d m j hj)
    · obtain rfl : j = m := by omega
      by_cases hk : Lib.keeps d j = true
      · rw [if_pos hk]
        exact List.mem_append_right _ (by simp)
      · have hk : Lib.keeps d j = false := by simpa using hk
        cases j with
        | zero => simp [Lib.keeps] at hk
        | succ i =>
          have e : d[i + 1]! = d[i]! := by
            have hk := hk
            simp [Lib.keeps] at hk
            first | exact hk | exact hk.symm
          rw [e]
          exact List.mem_append_left _ (mem_upTo d (i + 1) i (by omega))
theorem mem_comp {zs : List Int} {x : Int} (h : x ∈ zs) : x ∈ Lib.compact zs := by
  obtain ⟨j, hj, rfl⟩ := List.mem_iff_getElem.1 h
  have := mem_upTo zs.toArray zs.length j hj
  rwa [show zs.toArray[j]! = zs[j] by simp [hj]] at this
theorem forked_base {F : List Tw} (ok : Ok F) {x p b n : Int} (h : Forked F x p b n) : b ∈ basesF (forkF F x p b n) := by
  have hl := ok.len
  have h0 := h.lo
  have h1 := h.hi
  obtain ⟨k, rfl⟩ : ∃ k : Nat, x = (k : Int) := ⟨x.toNat, by omega⟩
  have ha : aliveF (F.set (k : Int).toNat ⟨true, p, b, n⟩) (k : Int) = true := by rw [alive_set ok.len h.lo h.hi, if_pos rfl]
  have hs : isSon (F.set (k : Int).toNat ⟨true, p, b, n⟩) (k : Int) = true := isSon_of ha (by omega)
  have hp : parB (F.set (k : Int).toNat ⟨true, p, b, n⟩) (k : Int) = b := by
    unfold parB
    rw [if_pos hs, tw_set (by rw [Int.toNat_natCast]; omega), if_pos rfl]
  rw [forked_set h]
  unfold basesF
  refine mem_comp (List.mem_mergeSort.2 ?_)
  unfold baseL
  refine List.mem_map.2 ⟨(k : Int), List.mem_filter.2 ⟨?_, hs⟩, hp⟩
  unfold aliveL
  exact List.mem_map.2 ⟨k, List.mem_filter.2 ⟨List.mem_range.2 (by omega), ha⟩, rfl⟩
end Go.Proofs.Ytaolpniigjmccaa.All
