/-
  The law CaltokBack in plain Lean: it tells true of any minutes and any text.
-/
import Derived.Test.YtmmkbdampdkjoaaDoorTextP
import Derived.Test.YtmmkbdampdkjoaaDoorLexC
import Derived.Test.YtmmkbdampdkjoaaDoorAllx13
namespace Go.Proofs.YtmmkbdampdkjoaaDoor.Pl
open Go.RowKit Go.Proofs.YtmmkbdampdkjoaaDoor.All Go.Proofs.YtmmkbdampdkjoaaDoorW.PrintWords
set_option linter.unusedVariables false
set_option linter.unusedSimpArgs false

/-- The text of any number. -/
def textA (n : Int) : List UInt8 := if 0 ≤ n ∧ n ≤ 1073741824 then textL n.toNat else []
theorem textA_ev (n : Int) : Ev (fun k => caltok_Text.f k n) (ofL (textA n)) := by
  unfold textA
  by_cases h : 0 ≤ n ∧ n ≤ 1073741824
  · rw [if_pos h]
    have := text_ev n.toNat (by omega)
    rw [show ((n.toNat : Nat) : Int) = n by omega] at this
    exact this
  · rw [if_neg h]
    exact text_out n (by omega)
theorem textL_size (n : Nat) (hn : n ≤ 1073741824) : (textL n).length ≤ 11 := by
  unfold textL
  rw [List.length_append]
  have := dec_len_le (numOf n) (Nat.le_trans (numOf_le n) hn)
  simp
  omega
theorem min_some (s : ByteArray) (h : s.size ≤ 1000) : caltok_Minutes.f s = some (minuL (lst s)) := by
  unfold caltok_Minutes.f
  rw [if_pos (by omega), minutes_lst]
theorem min_text (n : Nat) (hn : n ≤ 1073741824) : caltok_Minutes.f (ofL (textL n)) = some ((n : Int), true) := by
  rw [min_some _ (by rw [ofL_size]; have := textL_size n hn; omega), lst_ofL, minuL_text n hn]
theorem text_same (n m : Int) (h : 0 ≤ n ∧ n ≤ 1073741824) : (textA n = textA m) ↔ n = m := by
  constructor
  · intro e
    unfold textA at e
    rw [if_pos h] at e
    by_cases hm : 0 ≤ m ∧ m ≤ 1073741824
    · rw [if_pos hm] at e
      have := textL_inj (n := n.toNat) (m := m.toNat) (by omega) (by omega) e
      omega
    · rw [if_neg hm] at e
      obtain ⟨c, r, e2, _⟩ := textL_cons n.toNat
      rw [e2] at e
      cases e
  · rintro rfl
    rfl

theorem back_pure (n m : Int) (s : ByteArray) (_hn : (Lit.int .i64 n).wf = true) (_hm : (Lit.int .i64 m).wf = true) (_hs : s.size ≤ 140737488351232) : Ev (fun k => erewhilelaw33_CaltokBack.f k n m s) true := by
  simp only [erewhilelaw33_CaltokBack.f]
  refine Ev.bind awake_ev ?_
  simp only [if_true]
  by_cases h : (s.size : Int) > 300
  · simp only [if_pos h]
    exact ev_some
  · have hl : s.size ≤ 1000 := by omega
    simp only [if_neg h]
    refine Ev.bind (textA_ev n) ?_
    refine Ev.bind (textA_ev m) ?_
    by_cases hr : 0 ≤ n ∧ n ≤ 1073741824
    · obtain ⟨q, rfl⟩ : ∃ q : Nat, n = (q : Int) := ⟨n.toNat, by omega⟩
      have e1 : textA (q : Int) = textL q := by unfold textA; rw [if_pos hr]; rfl
      have h1 : ¬ (q : Int) < 0 := by omega
      have h2 : ¬ (q : Int) > 1073741824 := by omega
      simp only [if_neg h1, decide_eq_false h2]
      refine ev_succ ?_
      simp only [erewhilelaw33_CaltokBack.j0, Bool.false_eq_true, if_false, e1, min_text q (by omega), Option.bind_some, if_true, toList_lst, lst_ofL]
      have e2 : ((textL q == textA m) != ((q : Int) == m)) = false := by
        have := text_same (q : Int) m hr
        rw [e1] at this
        by_cases hq : (q : Int) = m
        · simp [hq, this.2 hq]
        · rw [beq_eq_false_iff_ne.2 (fun e => hq (this.1 e)), beq_eq_false_iff_ne.2 hq]
          rfl
      simp only [e2, Bool.false_eq_true, if_false, min_some s hl, Option.bind_some]
      by_cases c1 : (minuL (lst s)).2 = true
      · simp only [if_pos c1]
        by_cases c2 : (minuL (lst s)).1 = (q : Int)
        · simp only [if_pos c2]
          have := text_least q (lst s) (Prod.ext c2 c1)
          rw [lst_len] at this
          have e3 : decide ((s.size : Int) ≥ ((ofL (textL q)).size : Int)) = true := decide_eq_true (by rw [ofL_size]; omega)
          simp only [e3]
          exact ev_some
        · simp only [if_neg c2]
          exact ev_some
      · simp only [if_neg c1]
        exact ev_some
    · have e1 : textA n = [] := by unfold textA; rw [if_neg hr]
      have key : Ev (fun k => erewhilelaw33_CaltokBack.j0 k n m s (ofL (textA n)) (ofL (textA m)) true) true := by
        refine ev_succ ?_
        simp only [erewhilelaw33_CaltokBack.j0, if_true, toList_lst, lst_ofL, e1]
        exact ev_some
      by_cases h1 : n < 0
      · simp only [if_pos h1]
        exact key
      · have h2 : n > 1073741824 := by omega
        simp only [if_neg h1, decide_eq_true h2]
        exact key
end Go.Proofs.YtmmkbdampdkjoaaDoor.Pl
