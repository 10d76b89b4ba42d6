/-
  The tables that the laws make: their rows, in plain words; and what lies ahead of a moment more in them.
-/
import Derived.Test.YtonlbeonblpblaaRefT
namespace Go.Proofs.Ytonlbeonblpblaa.All
open Go.RowKit Go.Proofs.YtonlbeonblpblaaW.PrintWords Go.Proofs.YtonlbeonblpblaaW.PrintLast Go.Proofs.YtonlbeonblpblaaW.PrintMore Go.Proofs.Ytonlbeonblpblaa.Wd
set_option linter.unusedVariables false
set_option linter.unusedSimpArgs false
/-- The minute after so many steps. -/
def mkS (L : List Int) (i : Nat) : Int := (L.take i).sum
/-- The rows after so many steps. -/
def mkM (L : List Int) (i : Nat) : List It := (List.range i).map fun (j : Nat) => (⟨((j : Nat) : Int) + 1, mkS L (j + 1), false⟩ : It)
def Steps (L : List Int) : Prop := ∀ x ∈ L, 0 ≤ x ∧ x ≤ 255
theorem mkS_zero (L : List Int) : mkS L 0 = 0 := by simp [mkS]
theorem mkS_succ (L : List Int) {i : Nat} (h : i < L.length) : mkS L (i + 1) = mkS L i + L[i] := by
  unfold mkS
  rw [List.take_succ_eq_append_getElem h, List.sum_append]
  simp
theorem mkM_length (L : List Int) (i : Nat) : (mkM L i).length = i := by simp [mkM]
theorem mkM_zero (L : List Int) : mkM L 0 = [] := rfl
theorem mkM_succ (L : List Int) (i : Nat) : mkM L (i + 1) = mkM L i ++ [⟨(i : Int) + 1, mkS L (i + 1), false⟩] := by
  unfold mkM
  rw [List.range_succ, List.map_append]
  rfl
theorem mkS_le {L : List Int} (hs : Steps L) (i : Nat) (h : i ≤ L.length) : 0 ≤ mkS L i ∧ mkS L i ≤ 255 * i := by
  induction i with
  | zero => rw [mkS_zero]; omega
  | succ k ih =>
    rw [mkS_succ L (by omega)]
    have h1 := hs L[k] (List.getElem_mem _)
    have h2 := ih (by omega)
    omega
theorem mkS_mono {L : List Int} (hs : Steps L) (i j : Nat) (hij : i ≤ j) (h : j ≤ L.length) : mkS L i ≤ mkS L j := by
  induction j with
  | zero => obtain rfl : i = 0 := by omega
            exact Int.le_refl _
  | succ k ih =>
    by_cases e : i = k + 1
    · subst e; exact Int.le_refl _
    · rw [mkS_succ L (by omega)]
      have h1 := hs L[k] (List.getElem_mem _)
      have h2 := ih (by omega) (by omega)
      omega
theorem mkM_mem {L : List Int} (hs : Steps L) {i : Nat} (h : i ≤ L.length) {x : It} (hx : x ∈ mkM L i) : 1 ≤ x.n ∧ x.n ≤ i ∧ 0 ≤ x.m ∧ x.m ≤ mkS L i ∧ x.o = false := by
  unfold mkM at hx
  obtain ⟨j, hj, rfl⟩ := List.mem_map.1 hx
  have hj := List.mem_range.1 hj
  have h1 := mkS_mono hs (j + 1) i (by omega) h
  have h2 := (mkS_le hs (j + 1) (by omega)).1
  refine ⟨?_, ?_, h2, h1, rfl⟩ <;> (simp only; omega)
theorem mkM_good {L : List Int} (hs : Steps L) {i : Nat} (h : i ≤ L.length) (h3 : i ≤ 30) : Good (mkM L i) := by
  refine ⟨?_, fun x hx => ?_, by rw [mkM_length]; omega⟩
  · intro a b ha hb hab
    have e : ∀ (k : Nat) (hk : k < (mkM L i).length), ((mkM L i)[k]).n = (k : Int) + 1 := fun k hk => by simp [mkM]
    rw [e a ha, e b hb]
    omega
  · have h1 := mkM_mem hs h hx
    have h2 := mkS_le hs i h
    omega
theorem mkM_ahead {L : List Int} (hs : Steps L) {i : Nat} (h : i < L.length) {x : It} (hx : x ∈ mkM L i) : x.n < (i : Int) + 1 ∧ x.m ≤ mkS L (i + 1) := by
  have h1 := mkM_mem hs (by omega) hx
  have h2 := mkS_mono hs i (i + 1) (by omega) (by omega)
  omega
theorem mk_add {L : List Int} (hs : Steps L) {i : Nat} (h : i < L.length) (h3 : i < 30) : addC (mkM L i) ((i : Int) + 1) (mkS L (i + 1)) = 0 := by
  have h1 := mkS_le hs (i + 1) (by omega)
  unfold addC
  rw [if_neg (by omega), if_neg]
  rintro ⟨h0, h4⟩
  rw [mkM_length] at h0 h4
  have hlt : i - 1 < (mkM L i).length := by rw [mkM_length]; omega
  rw [List.getD_eq_getElem?_getD, List.getElem?_eq_getElem hlt] at h4
  have h5 := mkM_ahead hs h (List.getElem_mem hlt)
  simp only [Option.getD_some] at h4
  omega
theorem mk_addM {L : List Int} (hs : Steps L) {i : Nat} (h : i < L.length) (h3 : i < 30) : addM (mkM L i) ((i : Int) + 1) (mkS L (i + 1)) = mkM L (i + 1) := by
  unfold addM
  rw [if_pos (mk_add hs h h3), mkM_succ]
end Go.Proofs.Ytonlbeonblpblaa.All
