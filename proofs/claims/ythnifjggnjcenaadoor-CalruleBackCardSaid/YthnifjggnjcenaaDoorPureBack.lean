/-
  The law CalruleBack in plain Lean: it tells true of any rules.
-/
import Derived.Test.YthnifjggnjcenaaDoorBackQ
import Derived.Test.YthnifjggnjcenaaDoorAllx28
namespace Go.Proofs.YthnifjggnjcenaaDoor.Pl
open Go.RowKit Go.Proofs.YthnifjggnjcenaaDoor.All Go.Proofs.YthnifjggnjcenaaDoorW.PrintWords
set_option linter.unusedVariables false
set_option linter.unusedSimpArgs false

theorem back_pure (l : List S33) : Ev (fun k => erewhilelaw34_CalruleBack.f k l) true := by
  simp only [erewhilelaw34_CalruleBack.f]
  refine Ev.bind awake_ev ?_
  simp only [if_true]
  refine ev_succ ?_
  by_cases h : (l.length : Int) > 40
  · simp only [erewhilelaw34_CalruleBack.j0, decide_eq_true h, if_true]
    exact Ev.bind awake_ev ev_some
  · simp only [erewhilelaw34_CalruleBack.j0, decide_eq_false h, Bool.false_eq_true, if_false]
    refine Ev.bind (texts_ev l) ?_
    by_cases h0 : (textS l).2 = 0
    · obtain ⟨h1, h2, h3, h4⟩ := text_back l h0
      simp only [if_pos h0]
      refine Ev.bind (parse_ev _ (by have := text_small l; omega)) ?_
      rw [h1]
      simp only [if_true]
      exact Ev.bind (same_ev l (by omega)) ev_some
    · simp only [if_neg h0, text_none l h0]
      have e : (ofL []).toList = [] := by rw [toList_lst, lst_ofL]
      simp only [e]
      exact ev_some
end Go.Proofs.YthnifjggnjcenaaDoor.Pl
