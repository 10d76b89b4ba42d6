/-
  As many branches as there are ids, forked one after the other from the trunk, in plain Lean. No condition.
-/
import Derived.Test.YtaolpniigjmccaaBases
import Derived.Test.YtaolpniigjmccaaFreeClone
import Derived.Test.YtaolpniigjmccaaGrow
namespace Go.Proofs.Ytaolpniigjmccaa.All
open Go.RowKit Go.Proofs.Ytaolpniigjmccaa.Wd
set_option linter.unusedVariables false
set_option linter.unusedSimpArgs false

def growF (b : Int) : Nat → List Tw
  | 0 => newF
  | k + 1 => (growF b k).set (k + 1) ⟨true, 0, b, b + ((k : Int) + 1)⟩
theorem grow_len (b : Int) : ∀ k, (growF b k).length = 16
  | 0 => rfl
  | k + 1 => by
    unfold growF
    rw [List.length_set]
    exact grow_len b k
theorem grow_tw (b : Int) : ∀ k, k ≤ 15 → ∀ j : Nat, tw (growF b k) (j : Int) = if 1 ≤ j ∧ j ≤ k then ⟨true, 0, b, b + (j : Int)⟩ else tz
  | 0, _, j => by
    rw [if_neg (by omega)]
    exact tw_new _
  | k + 1, hk, j => by
    unfold growF
    rw [tw_set (by rw [grow_len]; omega), Int.toNat_natCast]
    by_cases h : j = k + 1
    · rw [if_pos h, if_pos (by omega)]
      subst h
      congr 1
    · rw [if_neg h, grow_tw b k (by omega) j]
      by_cases h2 : 1 ≤ j ∧ j ≤ k
      · rw [if_pos h2, if_pos (by omega)]
      · rw [if_neg h2, if_neg (by omega)]
theorem grow_fork {b : Int} (hb : 0 ≤ b) {k : Nat} (hk : k < 15) : forkC (growF b k) ((k : Int) + 1) 0 b (b + ((k : Int) + 1)) = 0 ∧ forkF (growF b k) ((k : Int) + 1) 0 b (b + ((k : Int) + 1)) = growF b (k + 1) := by
  have h0 : tw (growF b k) 0 = tz := by
    have := grow_tw b k (by omega) 0
    rw [if_neg (by omega)] at this
    exact this
  have h1 : tw (growF b k) ((k : Int) + 1) = tz := by
    have := grow_tw b k (by omega) (k + 1)
    rw [if_neg (by omega)] at this
    exact this
  have hf : Forked (growF b k) ((k : Int) + 1) 0 b (b + ((k : Int) + 1)) := ⟨by omega, by omega, by rw [h1]; rfl, alive_zero _, by rw [h0]; exact hb, by omega⟩
  have hc := forkC_yes hf
  refine ⟨hc, ?_⟩
  unfold forkF
  rw [if_pos hc, show ((k : Int) + 1).toNat = k + 1 by omega]
  rfl
theorem grow_free (b : Int) {k : Nat} (hk : k < 15) : FreeAt (growF b k) (k + 1) :=
  ⟨by omega, by omega, by rw [grow_tw b k (by omega), if_neg (by omega)]; rfl, fun j h1 h2 => by rw [grow_tw b k (by omega), if_pos (by omega)]⟩
theorem grow_full (b : Int) : ∀ j : Nat, 1 ≤ j → j < 16 → (tw (growF b 15) (j : Int)).a = true := fun j h1 h2 => by rw [grow_tw b 15 (by omega), if_pos (by omega)]
theorem grow_kids (b : Int) : kidsF (growF b 15) 0 = 15 := by kernel_rfl
/-- One of them is dropped. -/
theorem grow_drop (b : Int) {d : Nat} (h1 : 1 ≤ d) (h2 : d < 16) : dropC (growF b 15) (d : Int) = 0 ∧ kidsF ((growF b 15).set d tz) 0 = 14 := by
  obtain rfl | rfl | rfl | rfl | rfl | rfl | rfl | rfl | rfl | rfl | rfl | rfl | rfl | rfl | rfl : d = 1 ∨ d = 2 ∨ d = 3 ∨ d = 4 ∨ d = 5 ∨ d = 6 ∨ d = 7 ∨ d = 8 ∨ d = 9 ∨ d = 10 ∨ d = 11 ∨ d = 12 ∨ d = 13 ∨ d = 14 ∨ d = 15 := by omega
  all_goals exact ⟨by kernel_rfl, by kernel_rfl⟩
theorem grow_drop_free (b : Int) {d : Nat} (h1 : 1 ≤ d) (h2 : d < 16) : dropF (growF b 15) (d : Int) = (growF b 15).set d tz ∧ FreeAt ((growF b 15).set d tz) d := by
  refine ⟨by unfold dropF; rw [if_pos (grow_drop b h1 h2).1, Int.toNat_natCast], h1, h2, ?_, fun j j1 j2 => ?_⟩
  · rw [tw_set (by rw [grow_len]; omega), Int.toNat_natCast, if_pos rfl]; rfl
  · rw [tw_set (by rw [grow_len]; omega), Int.toNat_natCast, if_neg (by omega)]
    exact grow_full b j j1 (by omega)
theorem compact_rep (b : Int) (n : Nat) : ∀ m, 1 ≤ m → m ≤ n → Lib.compactUpTo (List.replicate n b).toArray m = [b]
  | 0, h, _ => by omega
  | 1, _, h => by
    rw [Lib.compactUpTo_succ]
    simp [Lib.compactUpTo, Lib.keeps, show 0 < n by omega]
  | m + 2, _, h => by
    rw [Lib.compactUpTo_succ, compact_rep b n (m + 1) (by omega) (by omega), Lib.keeps_neg (by omega) (by simp [show m < n by omega, show m + 1 < n by omega])]
    rfl
theorem grow_bases (b : Int) : (basesF (growF b 15)).length = 1 := by
  have e : baseL (growF b 15) (aliveL (growF b 15) 16) = List.replicate 15 b := by kernel_rfl
  unfold basesF
  rw [e, show ((List.replicate 15 b).mergeSort fun x y => decide (x ≤ y)) = List.replicate 15 b from List.perm_replicate.1 (List.mergeSort_perm _ _)]
  unfold Lib.compact
  rw [List.length_replicate, compact_rep b 15 15 (by omega) (by omega)]
  rfl
end Go.Proofs.Ytaolpniigjmccaa.All
