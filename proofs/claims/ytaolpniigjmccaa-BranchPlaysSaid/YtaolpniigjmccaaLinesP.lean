/-
  The lines of a forest that was grown, in plain Lean: where they begin and end, how each step follows from the one ahead, and how many there are. No condition.
-/
import Derived.Test.YtaolpniigjmccaaGrow
namespace Go.Proofs.Ytaolpniigjmccaa.Wd
open Go.RowKit Go.Proofs.YtaolpniigjmccaaW.PrintWords
set_option linter.unusedVariables false
set_option linter.unusedSimpArgs false

theorem line_next {F : List Tw} (ok : Ok F) : ∀ (i : Nat) (id m : Int) (s t : St), aliveF F id = true → (lineF F id m)[i]? = some s → (lineF F id m)[i + 1]? = some t →
    isSon F s.1 = true ∧ t = ((tw F s.1).p, (tw F (tw F s.1).p).n, (tw F s.1).b)
  | 0, id, m, s, t, ha, hs, ht => by
    have e : s = (id, (tw F id).n, m) := by simpa [lineF] using hs.symm
    subst e
    by_cases hz : id = 0
    · subst hz
      simp [lineF, tailF_zero] at ht
    · have ht' : (tailF F id)[0]? = some t := ht
      rw [tailF_son ok ha hz] at ht'
      exact ⟨isSon_of ha hz, by simpa [lineF] using ht'.symm⟩
  | i + 1, id, m, s, t, ha, hs, ht => by
    by_cases hz : id = 0
    · subst hz
      simp [lineF, tailF_zero] at ht
    · have hs' : (tailF F id)[i]? = some s := hs
      have ht' : (tailF F id)[i + 1]? = some t := ht
      rw [tailF_son ok ha hz] at hs' ht'
      exact line_next ok i _ _ s t (ok.son id (isSon_of ha hz)).1 hs' ht'
theorem line_each {F : List Tw} (ok : Ok F) : ∀ (i : Nat) (id m : Int) (s : St), aliveF F id = true → (tw F id).n ≤ m → (lineF F id m)[i]? = some s → aliveF F s.1 = true ∧ s.2.1 = (tw F s.1).n ∧ (tw F s.1).n ≤ s.2.2
  | 0, id, m, s, ha, hm, hs => by
    have e : s = (id, (tw F id).n, m) := by simpa [lineF] using hs.symm
    subst e
    exact ⟨ha, rfl, hm⟩
  | i + 1, id, m, s, ha, hm, hs => by
    by_cases hz : id = 0
    · subst hz
      simp [lineF, tailF_zero] at hs
    · have hs' : (tailF F id)[i]? = some s := hs
      rw [tailF_son ok ha hz] at hs'
      have h1 := ok.son id (isSon_of ha hz)
      exact line_each ok i _ _ s h1.1 h1.2.1 hs'
theorem line_last {F : List Tw} (ok : Ok F) : ∀ (i : Nat) (id m : Int) (s : St), aliveF F id = true → (lineF F id m)[i]? = some s → (lineF F id m)[i + 1]? = none → s.1 = 0
  | 0, id, m, s, ha, hs, ht => by
    have e : s = (id, (tw F id).n, m) := by simpa [lineF] using hs.symm
    subst e
    apply Classical.byContradiction
    intro hz
    have ht' : (tailF F id)[0]? = none := ht
    rw [tailF_son ok ha hz] at ht'
    simp [lineF] at ht'
  | i + 1, id, m, s, ha, hs, ht => by
    by_cases hz : id = 0
    · subst hz
      simp [lineF, tailF_zero] at hs
    · have hs' : (tailF F id)[i]? = some s := hs
      have ht' : (tailF F id)[i + 1]? = none := ht
      rw [tailF_son ok ha hz] at hs' ht'
      exact line_last ok i _ _ s (ok.son id (isSon_of ha hz)).1 hs' ht'
theorem line_falls {F : List Tw} (ok : Ok F) {id m : Int} (ha : aliveF F id = true) (hm : (tw F id).n ≤ m) : ∀ (d i : Nat) (s t : St), (lineF F id m)[i]? = some s → (lineF F id m)[i + (d + 1)]? = some t → t.2.1 < s.2.1
  | 0, i, s, t, hs, ht => by
    obtain ⟨h1, h2⟩ := line_next ok i id m s t ha hs ht
    have h3 := ok.son s.1 h1
    have h4 := (line_each ok i id m s ha hm hs).2.1
    rw [h2, h4]
    show (tw F (tw F s.1).p).n < _
    omega
  | d + 1, i, s, t, hs, ht => by
    have hlt : i + 1 < (lineF F id m).length := by have := (List.getElem?_eq_some_iff.1 ht).1; omega
    have h1 := line_falls ok ha hm 0 i s _ hs (List.getElem?_eq_getElem hlt)
    have h2 := line_falls ok ha hm d (i + 1) _ t (List.getElem?_eq_getElem hlt) (by rw [show i + 1 + (d + 1) = i + (d + 1 + 1) by omega]; exact ht)
    omega
theorem elder_14 {F : List Tw} (ok : Ok F) {id : Int} (h0 : 1 ≤ id) (h1 : id < 16) : elder F (tw F id).n ≤ 14 := by
  obtain ⟨f, G, rfl⟩ : ∃ f G, F = f :: G := by
    cases F with
    | nil => exact absurd ok.len (by decide)
    | cons f G => exact ⟨f, G, rfl⟩
  have hf : f = tz := ok.zero
  have hG : G.length = 15 := by have := ok.len; simp at this; exact this
  obtain ⟨k, hk⟩ : ∃ k : Nat, id = (k : Int) + 1 := ⟨(id - 1).toNat, by omega⟩
  have hkl : k < G.length := by omega
  have ht : tw (f :: G) id = G[k] := by
    unfold tw
    rw [show id.toNat = k + 1 by omega, List.getD_eq_getElem?_getD, List.getElem?_cons_succ, List.getElem?_eq_getElem hkl]
    rfl
  unfold elder
  rw [List.countP_cons, hf, if_neg (by simp [tz])]
  have := countP_lt (p := fun t : Tw => t.a && decide (t.n < (tw (tz :: G) id).n)) (q := fun _ => true) (l := G) (fun _ _ => rfl) ⟨G[k], List.getElem_mem hkl, rfl, by rw [← hf, ht]; simp⟩
  rw [List.countP_true] at this
  omega
theorem line_len16 {F : List Tw} (ok : Ok F) {id : Int} (ha : aliveF F id = true) (m : Int) : (lineF F id m).length ≤ 16 := by
  unfold lineF
  rw [List.length_cons]
  by_cases hz : id = 0
  · subst hz; rw [tailF_zero]; simp
  · obtain ⟨r0, r1⟩ := alive_range ha
    have := tail_len ok 14 id ha (elder_14 ok (by omega) r1)
    omega
/-- What BranchLines says of a line. -/
structure LineLaw (F : List Tw) (id m : Int) (L : List St) : Prop where
  lo : 0 < L.length
  hi : L.length ≤ 16
  head : ∀ h : 0 < L.length, L[0].1 = id ∧ L[0].2.2 = m
  last : ∀ h : L.length - 1 < L.length, L[L.length - 1].1 = 0 ∧ L[L.length - 1].2.1 = 0
  each : ∀ i (h : i < L.length), aliveF F L[i].1 = true ∧ numF F L[i].1 = L[i].2.1 ∧ L[i].2.1 ≤ L[i].2.2
  apart : ∀ i k (h : i < L.length) (hk : k < L.length), k < i → L[k].1 ≠ L[i].1
  next : ∀ i (h : i + 1 < L.length), isSon F L[i].1 = true ∧ parP F L[i].1 = L[i + 1].1 ∧ parB F L[i].1 = L[i + 1].2.2 ∧ L[i + 1].2.2 < L[i].2.1 ∧ L[i + 1].2.2 ≤ L[i].2.2
theorem line_law {F : List Tw} (ok : Ok F) {id m : Int} (ha : aliveF F id = true) (hm : (tw F id).n ≤ m) : LineLaw F id m (lineF F id m) := by
  have E : ∀ i (h : i < (lineF F id m).length), aliveF F (lineF F id m)[i].1 = true ∧ (lineF F id m)[i].2.1 = (tw F (lineF F id m)[i].1).n ∧ (tw F (lineF F id m)[i].1).n ≤ (lineF F id m)[i].2.2 := fun i h => line_each ok i id m _ ha hm (List.getElem?_eq_getElem h)
  refine ⟨by simp [lineF], line_len16 ok ha m, fun h => ⟨rfl, rfl⟩, fun h => ?_, fun i h => ?_, fun i k h hk hlt he => ?_, fun i h => ?_⟩
  · have h1 := line_last ok _ id m _ ha (List.getElem?_eq_getElem h) (List.getElem?_eq_none (by omega))
    refine ⟨h1, ?_⟩
    rw [(E _ h).2.1, h1, ok.zero]
    rfl
  · obtain ⟨h1, h2, h3⟩ := E i h
    exact ⟨h1, by unfold numF; rw [if_pos h1, h2], by rw [h2]; exact h3⟩
  · have h1 := line_falls ok ha hm (i - k - 1) k _ _ (List.getElem?_eq_getElem hk) (by rw [show k + (i - k - 1 + 1) = i by omega]; exact List.getElem?_eq_getElem h)
    rw [(E i h).2.1, (E k hk).2.1, he] at h1
    omega
  · obtain ⟨h1, h2⟩ := line_next ok i id m _ _ ha (List.getElem?_eq_getElem (by omega)) (List.getElem?_eq_getElem h)
    have h3 := ok.son _ h1
    obtain ⟨h4, h5, h6⟩ := E i (by omega)
    refine ⟨h1, ?_, ?_, ?_, ?_⟩
    · unfold parP; rw [if_pos h1, h2]
    · unfold parB; rw [if_pos h1, h2]
    · rw [h2, h5]; exact h3.2.2
    · rw [h2]
      show (tw F (lineF F id m)[i].1).b ≤ _
      omega
theorem line_parts (F : List Tw) (id m : Int) : lineF F id m = (id, (tw F id).n, m) :: tailF F id := rfl
end Go.Proofs.Ytaolpniigjmccaa.Wd
