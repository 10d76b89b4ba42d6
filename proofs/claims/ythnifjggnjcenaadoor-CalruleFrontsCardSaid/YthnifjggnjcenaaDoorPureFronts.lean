/-
  The law CalruleFronts in plain Lean: it tells true of any rules.
-/
import Derived.Test.YthnifjggnjcenaaDoorBackQ
import Derived.Test.YthnifjggnjcenaaDoorAllx33
namespace Go.Proofs.YthnifjggnjcenaaDoor.Pl
open Go.RowKit Go.Proofs.YthnifjggnjcenaaDoor.All Go.Proofs.YthnifjggnjcenaaDoorW.PrintWords
set_option linter.unusedVariables false
set_option linter.unusedSimpArgs false

theorem fronts_pure (l : List S33) (n : Int) (hn : (Lit.int .u8 n).wf = true) : Ev (fun k => erewhilelaw34_CalruleFronts.f k l n) true := by
  simp only [erewhilelaw34_CalruleFronts.f]
  refine Ev.bind awake_ev ?_
  simp only [if_true]
  refine ev_succ ?_
  by_cases h : (l.length : Int) > 40
  · simp only [erewhilelaw34_CalruleFronts.j0, decide_eq_true h, if_true]
    exact Ev.bind awake_ev ev_some
  · simp only [erewhilelaw34_CalruleFronts.j0, decide_eq_false h, Bool.false_eq_true, if_false]
    refine Ev.bind (texts_ev l) ?_
    by_cases h0 : (textS l).2 = 0
    · obtain ⟨h1, h2, h3, h4⟩ := text_back l h0
      have hn' : 0 ≤ n ∧ n ≤ 255 := by
        simp [Lit.wf, IntKind.min, IntKind.max, IntKind.signed, IntKind.bits] at hn
        omega
      have w1 : wrap64 ((l.length : Int) + 1) = ((l.length + 1 : Nat) : Int) := wrap_succ _ (by omega)
      have w2 : wrap64 n = ((n.toNat : Nat) : Int) := by
        rw [show n = ((n.toNat : Nat) : Int) by omega]
        exact wrap_nat _ (by omega)
      have hq : Int.tmod (wrap64 n) (wrap64 ((l.length : Int) + 1)) = ((n.toNat % (l.length + 1) : Nat) : Int) := by
        rw [w1, w2]
        exact mod_nat _ _
      obtain ⟨q, hqq⟩ : ∃ q, n.toNat % (l.length + 1) = q := ⟨_, rfl⟩
      have hql : q ≤ l.length := by
        have := Nat.mod_lt n.toNat (show 0 < l.length + 1 by omega)
        omega
      rw [hqq] at hq
      have c1 : ¬ wrap64 ((l.length : Int) + 1) = 0 := by rw [w1]; omega
      have c2 : (0 : Int) ≤ (q : Int) := by omega
      have c3 : (q : Int) ≤ (l.length : Int) := by omega
      simp only [if_pos h0, if_neg c1, hq, if_pos c2, if_pos c3, Int.toNat_natCast]
      clear w1 w2 hq c1
      have t1 := text_of (l.take q) (fun r hr => h2 r (List.mem_of_mem_take hr)) (by rw [List.length_take]; omega)
      have t2 := text_of (l.drop q) (fun r hr => h2 r (List.mem_of_mem_drop hr)) (by rw [List.length_drop]; omega)
      refine Ev.bind (texts_ev (l.take q)) ?_
      refine Ev.bind (texts_ev (l.drop q)) ?_
      have s1 := text_small (l.take q)
      have s2 := text_small (l.drop q)
      rw [t1] at s1 ⊢
      rw [t2] at s2 ⊢
      simp only at s1 s2
      have c4 : (ofL ((l.take q).flatMap lineT)).size + (ofL ((l.drop q).flatMap lineT)).size ≤ 9223372036854775807 := by omega
      simp only [if_true, if_pos c4, h4, ← ofL_append, ← List.flatMap_append, List.take_append_drop, beq_self_eq_true]
      exact ev_some
    · simp only [if_neg h0]
      exact ev_some
end Go.Proofs.YthnifjggnjcenaaDoor.Pl
