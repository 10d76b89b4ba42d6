/-
  Which rules are marked by a loop over clashes, in plain Lean. No condition.
-/
import Derived.Test.YtlfkdbfbkgcgnaaCheckC
namespace Go.Proofs.Ytlfkdbfbkgcgnaa.Pl
open Go.RowKit Go.Proofs.Ytlfkdbfbkgcgnaa.All Go.Proofs.YtlfkdbfbkgcgnaaW.PrintWords
set_option linter.unusedVariables false
set_option linter.unusedSimpArgs false

/-- The marks behind some clashes. -/
def marks (p : S30 → Bool) (cs : List S30) (acc : List Bool) : List Bool := cs.foldl (fun a c => if p c = true then a.set c.f0.toNat true else a) acc
theorem marks_len (p : S30 → Bool) : ∀ (cs : List S30) (acc : List Bool), (marks p cs acc).length = acc.length
  | [], _ => rfl
  | c :: cs, acc => by
    show (marks p cs (if p c = true then acc.set c.f0.toNat true else acc)).length = _
    rw [marks_len p cs]
    split <;> simp
theorem marks_at (p : S30 → Bool) : ∀ (cs : List S30) (acc : List Bool) (i : Nat), i < acc.length → ((marks p cs acc).getD i false = true ↔ acc.getD i false = true ∨ ∃ c ∈ cs, p c = true ∧ c.f0.toNat = i)
  | [], acc, i, h => by simp [marks]
  | c :: cs, acc, i, h => by
    show ((marks p cs (if p c = true then acc.set c.f0.toNat true else acc)).getD i false = true ↔ _)
    rw [marks_at p cs _ i (by split <;> simpa using h)]
    by_cases hp : p c = true
    · rw [if_pos hp]
      by_cases hi : c.f0.toNat = i
      · have : (acc.set c.f0.toNat true).getD i false = true := by
          rw [hi, List.getD_eq_getElem?_getD, List.getElem?_set_self h]
          rfl
        rw [this]
        exact ⟨fun _ => Or.inr ⟨c, List.mem_cons_self, hp, hi⟩, fun _ => Or.inl rfl⟩
      · have : (acc.set c.f0.toNat true).getD i false = acc.getD i false := by
          rw [List.getD_eq_getElem?_getD, List.getElem?_set_ne hi, ← List.getD_eq_getElem?_getD]
        rw [this]
        constructor
        · rintro (h1 | ⟨d, hd, h1, h2⟩)
          · exact Or.inl h1
          · exact Or.inr ⟨d, List.mem_cons_of_mem _ hd, h1, h2⟩
        · rintro (h1 | ⟨d, hd, h1, h2⟩)
          · exact Or.inl h1
          · rcases List.mem_cons.1 hd with rfl | hd
            · exact absurd h2 hi
            · exact Or.inr ⟨d, hd, h1, h2⟩
    · rw [if_neg hp]
      constructor
      · rintro (h1 | ⟨d, hd, h1, h2⟩)
        · exact Or.inl h1
        · exact Or.inr ⟨d, List.mem_cons_of_mem _ hd, h1, h2⟩
      · rintro (h1 | ⟨d, hd, h1, h2⟩)
        · exact Or.inl h1
        · rcases List.mem_cons.1 hd with rfl | hd
          · exact absurd h1 hp
          · exact Or.inr ⟨d, hd, h1, h2⟩
theorem marks_take (p : S30 → Bool) (cs : List S30) (acc : List Bool) (m : Nat) (h : m < cs.length) :
    marks p (cs.take (m + 1)) acc = if p (cs.getD m z30) = true then (marks p (cs.take m) acc).set (cs.getD m z30).f0.toNat true else marks p (cs.take m) acc := by
  unfold marks
  have e : cs.take (m + 1) = cs.take m ++ [cs.getD m z30] := by
    rw [List.take_add_one, List.getElem?_eq_getElem h, List.getD_eq_getElem?_getD, List.getElem?_eq_getElem h]
    rfl
  rw [e, List.foldl_append]
  rfl
theorem marks_new (p : S30 → Bool) (cs : List S30) (n i : Nat) (h : i < n) : (marks p cs (List.replicate n false)).getD i false = true ↔ ∃ c ∈ cs, p c = true ∧ c.f0.toNat = i := by
  rw [marks_at p cs _ i (by simpa using h)]
  have : (List.replicate n false).getD i false = false := by
    rw [List.getD_eq_getElem?_getD, List.getElem?_replicate]
    split <;> rfl
  rw [this]
  exact ⟨fun h => h.resolve_left (by decide), Or.inr⟩

/-- A clash's places. -/
theorem chk_at {l : List S33} {i : Nat} (h : i < (chk l l.length).length) : ∃ a b : Nat, a < l.length ∧ b < l.length ∧ a ≠ b ∧ whyP (l.getD a z33) (l.getD b z33) (decide (b < a)) ≠ 0 ∧ (chk l l.length).getD i z30 = ⟨a, b, whyP (l.getD a z33) (l.getD b z33) (decide (b < a))⟩ := by
  have hm : (chk l l.length).getD i z30 ∈ chk l l.length := by
    rw [List.getD_eq_getElem?_getD, List.getElem?_eq_getElem h]
    exact List.getElem_mem h
  obtain ⟨a, b, h1, h2, h3, h4, h5⟩ := mem_chk.1 hm
  exact ⟨a, b, h1, h2, h3, h4, h5⟩
end Go.Proofs.Ytlfkdbfbkgcgnaa.Pl
