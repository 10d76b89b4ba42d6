/-
  The law CalruleParses in plain Lean: it tells true of any text.
-/
import Derived.Test.YthnifjggnjcenaaDoorRefQ
import Derived.Test.YthnifjggnjcenaaDoorPureSame
import Derived.Test.YthnifjggnjcenaaDoorAllx14
namespace Go.Proofs.YthnifjggnjcenaaDoor.Pl
open Go.RowKit Go.Proofs.YthnifjggnjcenaaDoor.All Go.Proofs.YthnifjggnjcenaaDoorW.PrintWords
set_option linter.unusedVariables false
set_option linter.unusedSimpArgs false

theorem parses_pure (s : ByteArray) (_hs : s.size ≤ 140737488351232) : Ev (fun k => erewhilelaw34_CalruleParses.f k s) true := by
  simp only [erewhilelaw34_CalruleParses.f]
  refine Ev.bind awake_ev ?_
  simp only [if_true]
  refine ev_succ ?_
  by_cases h : (s.size : Int) > 400
  · simp only [erewhilelaw34_CalruleParses.j0, decide_eq_true h, if_true]
    exact Ev.bind awake_ev ev_some
  · simp only [erewhilelaw34_CalruleParses.j0, decide_eq_false h, Bool.false_eq_true, if_false]
    refine Ev.bind (parse_ev s (by omega)) ?_
    refine Ev.bind (rparse_ev s (by omega)) ?_
    rcases parseS_kinds s with ⟨l, e, hl⟩ | ⟨p, x, e, hx⟩
    · rw [e]
      refine Ev.bind (same_ev l (by omega)) ?_
      simp only [if_true]
      exact ev_some
    · rw [e]
      refine Ev.bind (same_ev [] (by simp)) ?_
      simp only [if_true, if_neg hx]
      exact ev_some
end Go.Proofs.YthnifjggnjcenaaDoor.Pl
