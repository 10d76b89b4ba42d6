/-
  What Lex's answer looks like, in plain Lean; the document's example. No condition but the size.
-/
import Derived.Test.YtmmkbdampdkjoaaDoorLexA
import Derived.Test.YtmmkbdampdkjoaaDoorAllx4
namespace Go.Proofs.YtmmkbdampdkjoaaDoor.Pl
open Go.RowKit Go.Proofs.YtmmkbdampdkjoaaDoor.All Go.Proofs.YtmmkbdampdkjoaaDoorW.PrintWords
set_option linter.unusedVariables false
set_option linter.unusedSimpArgs false

theorem lexP_kind (s : ByteArray) : ∀ (d i : Nat) (acc : List S33), i ≤ s.size → (lexP s d acc i).2 = (0, 0) ∨ ∃ j : Nat, j ≤ s.size ∧ lexP s d acc i = ([], (j : Int), 17)
  | 0, i, acc, hi => Or.inl rfl
  | d + 1, i, acc, hi => by
    simp only [lexP]
    split
    · rename_i hlt
      have l1 := run_le isLet s (s.size - i) i
      have l2 := run_le isBoth s (s.size - i) i
      split
      · exact lexP_kind s d _ _ (by omega)
      · split
        · exact lexP_kind s d _ _ (by omega)
        · split
          · exact lexP_kind s d _ _ (by omega)
          · split
            · split
              · exact lexP_kind s d _ _ (by omega)
              · exact Or.inr ⟨i, hi, rfl⟩
            · exact Or.inr ⟨i, hi, rfl⟩
    · exact Or.inl rfl
theorem lexS_kind (s : ByteArray) : (lexS s).2 = (0, 0) ∨ ∃ j : Nat, j ≤ s.size ∧ lexS s = ([], (j : Int), 17) := lexP_kind s _ _ _ (Nat.zero_le _)

theorem awake_ev : Ev (fun k => erewhilelaw33_awake.f k) true := by
  simp only [erewhilelaw33_awake.f]
  refine Ev.bind (lex_ev _ (by decide)) ?_
  refine Ev.bind (lex_ev _ (by decide)) ?_
  have e1 : lexS (⟨#[101, 97, 99, 104, 32, 49, 104]⟩ : ByteArray) = ([⟨1, ⟨#[101, 97, 99, 104]⟩, 0, 0⟩, ⟨2, ⟨#[49, 104]⟩, 60, 5⟩, ⟨0, ⟨#[]⟩, 0, 7⟩], 0, 0) := by kernel_rfl
  have e2 : lexS (⟨#[97, 32, 49, 120]⟩ : ByteArray) = ([], 2, 17) := by kernel_rfl
  rw [e1, e2]
  have e3 : ((if ((0 : Int)) = 0 then (if ((0 : Int)) = 0 then (if ((([⟨1, ⟨#[101, 97, 99, 104]⟩, 0, 0⟩, ⟨2, ⟨#[49, 104]⟩, 60, 5⟩, ⟨0, ⟨#[]⟩, 0, 7⟩] : List S33).length : Int)) = 3 then true else false) else false) else false) : Bool) = true := by kernel_rfl
  exact ⟨0, fun k _ => by kernel_rfl⟩
end Go.Proofs.YtmmkbdampdkjoaaDoor.Pl
