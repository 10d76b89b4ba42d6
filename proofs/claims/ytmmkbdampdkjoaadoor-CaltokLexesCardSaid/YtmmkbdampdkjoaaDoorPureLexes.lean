/-
  The law CaltokLexes in plain Lean: it tells true of any text.
-/
import Derived.Test.YtmmkbdampdkjoaaDoorLexB
import Derived.Test.YtmmkbdampdkjoaaDoorLexC
import Derived.Test.YtmmkbdampdkjoaaDoorAllx9
namespace Go.Proofs.YtmmkbdampdkjoaaDoor.Pl
open Go.RowKit Go.Proofs.YtmmkbdampdkjoaaDoor.All Go.Proofs.YtmmkbdampdkjoaaDoorW.PrintWords
set_option linter.unusedVariables false
set_option linter.unusedSimpArgs false

theorem same_l0 (l : List S33) (hl : l.length ≤ 1000000) : ∀ d i : Nat, i + d = l.length → Ev (fun k => erewhilelaw33_same.l0 k l (l.map toR) (i : Int)) true
  | 0, i, hi => by
    obtain rfl : i = l.length := by omega
    refine ev_succ ?_
    have h1 : ¬ (l.length : Int) < (l.length : Int) := by omega
    simp only [erewhilelaw33_same.l0, if_neg h1]
    exact ev_some
  | d + 1, i, hi => by
    have ih := same_l0 l hl d (i + 1) (by omega)
    refine ev_succ ?_
    have h1 : (i : Int) < (l.length : Int) := by omega
    have h0 : (0 : Int) ≤ (i : Int) := by omega
    have e : rd_T45 (l.map toR) i = toR (rd_T33 l i) := by
      show (l.map toR).getD i z45 = toR (l.getD i z33)
      rw [List.getD_eq_getElem?_getD, List.getD_eq_getElem?_getD, List.getElem?_map]
      cases l[i]? <;> rfl
    simp only [erewhilelaw33_same.l0, List.length_map, if_pos h1, if_pos h0, wrap_succ i (by omega), e, toR, if_true]
    exact ih

theorem lexP_len (s : ByteArray) : ∀ (d i : Nat) (acc : List S33), i ≤ s.size → acc.length ≤ i → (lexP s d acc i).1.length ≤ s.size + 1
  | 0, i, acc, hi, ha => by simp [lexP]; omega
  | d + 1, i, acc, hi, ha => by
    simp only [lexP]
    split
    · rename_i hlt
      have l1 := run_le isLet s (s.size - i) i
      have l2 := run_le isBoth s (s.size - i) i
      split
      · exact lexP_len s d _ _ (by omega) (by omega)
      · split
        · exact lexP_len s d _ _ (by omega) (by simp; omega)
        · split
          · rename_i hp
            have := run_first isLet s i hlt hp
            exact lexP_len s d _ _ (by omega) (by simp; omega)
          · split
            · rename_i hp
              have := run_first isBoth s i hlt (by simp [isBoth, hp])
              split
              · exact lexP_len s d _ _ (by omega) (by simp; omega)
              · simp
            · simp
    · simp; omega

theorem lexes_pure (s : ByteArray) (_hs : s.size ≤ 140737488351232) : Ev (fun k => erewhilelaw33_CaltokLexes.f k s) true := by
  simp only [erewhilelaw33_CaltokLexes.f]
  refine Ev.bind awake_ev ?_
  simp only [if_true]
  by_cases h : (s.size : Int) > 300
  · simp only [if_pos h]
    exact ev_some
  · have hl : s.size ≤ 100000 := by omega
    simp only [if_neg h]
    refine Ev.bind (lex_ev s hl) ?_
    refine Ev.bind (rlex_ev s hl) ?_
    rcases lexS_kind s with hk | ⟨j, hj, hk⟩
    · obtain ⟨k1, k2⟩ := Prod.mk.inj (show ((lexS s).2.1, (lexS s).2.2) = (0, 0) from hk)
      have e : conv (lexS s) = ((lexS s).1.map toR, -1) := by simp [conv, k2]
      rw [e]
      simp only [k1, k2, if_neg (show ¬ (-1 : Int) ≥ 0 by omega), if_true]
      have hlen := lexP_len s s.size 0 [] (Nat.zero_le _) (Nat.le_refl _)
      have h2 : Ev (fun k => erewhilelaw33_same.f k (lexS s).1 ((lexS s).1.map toR)) true := by
        simp only [erewhilelaw33_same.f, List.length_map, if_true]
        exact same_l0 _ (by unfold lexS; omega) _ 0 (Nat.zero_add _)
      exact Ev.bind h2 ev_some
    · rw [hk]
      have e : conv (([], (j : Int), 17) : List S33 × Int × Int) = ([], (j : Int)) := by simp [conv]
      rw [e]
      simp only [if_pos (show (j : Int) ≥ 0 by omega), if_true]
      exact ev_some
end Go.Proofs.YtmmkbdampdkjoaaDoor.Pl
