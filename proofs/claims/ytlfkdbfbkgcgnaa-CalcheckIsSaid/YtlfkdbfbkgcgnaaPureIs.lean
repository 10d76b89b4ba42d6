/-
  The law CalcheckIs in plain Lean: it tells true of any list of rules.
-/
import Derived.Test.YtlfkdbfbkgcgnaaCheckB
import Derived.Test.YtlfkdbfbkgcgnaaAllx13
namespace Go.Proofs.Ytlfkdbfbkgcgnaa.Pl
open Go.RowKit Go.Proofs.Ytlfkdbfbkgcgnaa.All Go.Proofs.YtlfkdbfbkgcgnaaW.PrintWords
set_option linter.unusedVariables false
set_option linter.unusedSimpArgs false

theorem is_l1 (x0 : List S33) (hl : x0.length ≤ 1000) : ∀ d i : Nat, i + d = x0.length → Ev (fun k => erewhilelaw35_CalcheckIs.l1 k x0 x0 x0.length (i : Int)) true
  | 0, i, hi => by
    obtain rfl : i = x0.length := by omega
    refine ev_succ ?_
    have h1 : ¬ (x0.length : Int) < (x0.length : Int) := by omega
    simp only [erewhilelaw35_CalcheckIs.l1, if_neg h1]
    exact ev_some
  | d + 1, i, hi => by
    have ih := is_l1 x0 hl d (i + 1) (by omega)
    refine ev_succ ?_
    have h1 : (i : Int) < (x0.length : Int) := by omega
    have h0 : (0 : Int) ≤ (i : Int) := by omega
    simp only [erewhilelaw35_CalcheckIs.l1, if_pos h1, if_pos h0, wrap_succ i (by omega), beq_self_eq_true, Bool.not_true, Bool.or_false, Bool.false_eq_true, if_false]
    exact ih

theorem is_l0 (x0 : List S33) (hl : x0.length ≤ 1000) (x4 : List S30) (h4 : x4.length ≤ 100000) : ∀ d i : Nat, i + d = x4.length → Ev (fun k => erewhilelaw35_CalcheckIs.l0 k x0 x0 x4 (x4.map toR) x4.length (i : Int)) true
  | 0, i, hi => by
    obtain rfl : i = x4.length := by omega
    refine ev_succ ?_
    have h1 : ¬ (x4.length : Int) < (x4.length : Int) := by omega
    simp only [erewhilelaw35_CalcheckIs.l0, if_neg h1]
    exact is_l1 x0 hl x0.length 0 (by omega)
  | d + 1, i, hi => by
    have ih := is_l0 x0 hl x4 h4 d (i + 1) (by omega)
    refine ev_succ ?_
    have h1 : (i : Int) < (x4.length : Int) := by omega
    have h0 : (0 : Int) ≤ (i : Int) := by omega
    have e : rd_T31 (x4.map toR) i = toR (rd_T30 x4 i) := by
      show (x4.map toR).getD i z31 = toR (x4.getD i z30)
      rw [List.getD_eq_getElem?_getD, List.getD_eq_getElem?_getD, List.getElem?_map]
      cases x4[i]? <;> rfl
    simp only [erewhilelaw35_CalcheckIs.l0, List.length_map, if_pos h1, if_pos h0, wrap_succ i (by omega), e, toR, beq_self_eq_true, Bool.not_true, Bool.or_false, Bool.false_eq_true, if_false]
    exact ih

theorem is_pure (l : List S33) : Ev (fun k => erewhilelaw35_CalcheckIs.f k l) true := by
  simp only [erewhilelaw35_CalcheckIs.f]
  refine Ev.bind awake_ev ?_
  simp only [if_true]
  by_cases h : (l.length : Int) > 40
  · simp only [if_pos h]
    exact ev_some
  · have hl : l.length ≤ 1000 := by omega
    have e : ([] : List S33).length + l.length < 5864062014805 := by simp; omega
    simp only [if_neg h, Option.bind_some, if_pos e, List.nil_append]
    refine Ev.bind (check_ev l hl) ?_
    refine Ev.bind (rcheck_ev l hl) ?_
    have e2 : ((chk l l.length).length : Int) = (((chk l l.length).map toR).length : Int) := by rw [List.length_map]
    simp only [if_pos e2]
    refine Ev.bind (sound_ev l hl) ?_
    have e3 : (decide ((chk l l.length).length = 0) != ((((chk l l.length).map toR).length : Int) == 0)) = false := by
      rw [List.length_map]
      by_cases hz : (chk l l.length).length = 0
      · simp [hz]
      · have : ¬ ((chk l l.length).length : Int) = 0 := by omega
        simp [hz, this]
    simp only [e3]
    refine ev_succ ?_
    simp only [erewhilelaw35_CalcheckIs.j0, Bool.false_eq_true, if_false]
    have hc : (chk l l.length).length ≤ 100000 := by
      have h2 := chk_len l l.length
      have h3 : l.length * l.length ≤ 40 * 40 := Nat.mul_le_mul (by omega) (by omega)
      omega
    exact is_l0 l hl _ hc _ 0 (Nat.zero_add _)
end Go.Proofs.Ytlfkdbfbkgcgnaa.Pl
