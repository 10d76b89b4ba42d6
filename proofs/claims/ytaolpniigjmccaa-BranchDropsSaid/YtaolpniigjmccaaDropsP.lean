/-
  Plain: a branch that is forked and dropped again leaves the forest as it was. No condition.
-/
import Derived.Test.YtaolpniigjmccaaRefP
namespace Go.Proofs.Ytaolpniigjmccaa.Wd
open Go.RowKit Go.Proofs.YtaolpniigjmccaaW.PrintWords
set_option linter.unusedVariables false
theorem forked_set {F : List Tw} {x p b n : Int} (h : Forked F x p b n) : forkF F x p b n = F.set x.toNat ⟨true, p, b, n⟩ := by
  unfold forkF
  rw [if_pos (forkC_yes h)]
theorem set_back {F : List Tw} (ok : Ok F) {x p b n : Int} (h : Forked F x p b n) : (F.set x.toNat ⟨true, p, b, n⟩).set x.toNat tz = F := by
  rw [List.set_set]
  have hl := ok.len
  have hx : x.toNat < F.length := by have := h.lo; have := h.hi; omega
  refine List.ext_getElem (by simp) fun i h1 h2 => ?_
  rw [List.getElem_set]
  split
  · rename_i e
    subst e
    have := ok.idle x h.idle
    unfold tw at this
    rw [List.getD_eq_getElem?_getD, List.getElem?_eq_getElem hx] at this
    exact this.symm
  · rfl
theorem kids_more {F : List Tw} (ok : Ok F) {x p b n : Int} (h : Forked F x p b n) : kidsF (forkF F x p b n) p = kidsF F p + 1 := by
  have hl := ok.len
  have hx : x.toNat < F.length := by have := h.lo; have := h.hi; omega
  have hpx : p ≠ x := by
    rintro rfl
    have := idle_alive h.lo h.hi h.idle
    rw [h.par] at this
    cases this
  rw [forked_set h]
  unfold kidsF
  rw [alive_set ok.len h.lo h.hi, if_neg hpx, if_pos h.par, if_pos h.par, List.countP_set hx]
  have e : (F[x.toNat]).a = false := by
    have := h.idle
    unfold tw at this
    rw [List.getD_eq_getElem?_getD, List.getElem?_eq_getElem hx] at this
    exact this
  simp [e]
theorem par_ne {F : List Tw} {x p b n : Int} (h : Forked F x p b n) : p ≠ x := by
  rintro rfl
  have := idle_alive h.lo h.hi h.idle
  rw [h.par] at this
  cases this
theorem drop_parent {F : List Tw} (ok : Ok F) {x p b n : Int} (h : Forked F x p b n) : dropC (forkF F x p b n) p = if p = 0 then 7 else 12 := by
  have hk := kids_more ok h
  unfold dropC
  by_cases hz : p = 0
  · rw [if_pos hz, if_pos hz]
  · have ha : aliveF (forkF F x p b n) p = true := by rw [forked_set h, alive_set ok.len h.lo h.hi, if_neg (par_ne h)]; exact h.par
    rw [if_neg hz, if_neg hz, if_neg (by rw [ha]; decide), if_pos (by rw [hk]; omega)]
theorem drop_own {F : List Tw} (ok : Ok F) {x p b n : Int} (h : Forked F x p b n) : dropC (forkF F x p b n) x = 0 := by
  have hl := ok.len
  have hx : x.toNat < F.length := by have := h.lo; have := h.hi; omega
  have ha : aliveF (F.set x.toNat ⟨true, p, b, n⟩) x = true := by rw [alive_set ok.len h.lo h.hi, if_pos rfl]
  have hc := childless_idle ok (idle_alive h.lo h.hi h.idle)
  have hk : kidsF (F.set x.toNat ⟨true, p, b, n⟩) x = 0 := by
    unfold kidsF
    rw [if_pos ha, List.countP_set hx]
    have h0 : F.countP (fun t => t.a && t.p == x) = 0 := by
      rw [List.countP_eq_zero]
      intro t ht hp
      obtain ⟨i, hi, rfl⟩ := List.mem_iff_getElem.1 ht
      simp only [Bool.and_eq_true, beq_iff_eq] at hp
      have e : tw F (i : Int) = F[i] := by unfold tw; rw [Int.toNat_natCast, List.getD_eq_getElem?_getD, List.getElem?_eq_getElem hi]; rfl
      rw [← e] at hp
      have hi0 : (i : Int) ≠ 0 := by
        intro hz
        rw [hz, ok.zero] at hp
        exact absurd hp.1 (by decide)
      exact hc (i : Int) (isSon_of (by rw [alive_in (by omega) (by omega) hi0]; exact hp.1) hi0) hp.2
    have hpx : (p == x) = false := by simpa using par_ne h
    rw [h0]
    simp [hpx]
  rw [forked_set h]
  unfold dropC
  rw [if_neg (by have := h.lo; omega), if_neg (by rw [ha]; decide), if_neg (by rw [hk]; omega)]
theorem drop_back {F : List Tw} (ok : Ok F) {x p b n : Int} (h : Forked F x p b n) : dropF (forkF F x p b n) x = F := by
  unfold dropF
  rw [if_pos (drop_own ok h), forked_set h, set_back ok h]
end Go.Proofs.Ytaolpniigjmccaa.Wd
