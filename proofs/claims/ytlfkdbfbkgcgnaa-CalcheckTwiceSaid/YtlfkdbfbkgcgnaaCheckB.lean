/-
  What the document's answer (erewhileref35) computes, in plain Lean: the same clashes as the program's. Condition: at most 1000 rules.
-/
import Derived.Test.YtlfkdbfbkgcgnaaCheckA
import Derived.Test.YtlfkdbfbkgcgnaaAllx9
import Derived.Test.YtlfkdbfbkgcgnaaAllx10
import Derived.Test.YtlfkdbfbkgcgnaaAllx11
import Derived.Test.YtlfkdbfbkgcgnaaAllx12
namespace Go.Proofs.Ytlfkdbfbkgcgnaa.Pl
open Go.RowKit Go.Proofs.Ytlfkdbfbkgcgnaa.All Go.Proofs.YtlfkdbfbkgcgnaaW.PrintWords
set_option linter.unusedVariables false
set_option linter.unusedSimpArgs false

theorem rkeeps_eq (a : S33) : erewhileref35_Keeps.f a.f0 a.f1 a.f2 = some (kp a) := by
  unfold erewhileref35_Keeps.f kp
  by_cases h1 : a.f0 = 1
  · simp [h1]
  · by_cases h2 : a.f0 = 2
    · by_cases h4 : a.f1 ≥ 1
      · simp [h2, h4]
      · simp [h2, h4]
    · by_cases h3 : a.f0 = 3
      · simp [h3]
      · simp [h1, h2, h3]

theorem rj0_eq (a b : S33) (ha : kp a = true) (q : Bool) : Ev (fun k => erewhileref35_Covers.j0 k q a.f0 a.f1 a.f2 b.f0 b.f1 b.f2) (!q && fit a b) := by
  refine ev_succ ?_
  simp only [erewhileref35_Covers.j0]
  cases q with
  | true => simpa using ev_some
  | false =>
    simp only [Bool.not_false, Bool.true_and, Bool.false_eq_true, if_false]
    unfold fit
    by_cases h1 : a.f0 = 1
    · simp only [if_pos h1]; exact ev_some
    · simp only [if_neg h1]
      by_cases h3 : a.f0 = 2
      · have h4 : a.f1 ≠ 0 := by
          intro h4
          simp [kp, h3, h4] at ha
        have h5 : ¬ a.f0 = 3 := by omega
        simp only [if_pos h3, if_neg h4, if_neg h5]
        by_cases h6 : b.f0 = 2
        · simp only [if_pos h6, if_pos (show a.f0 = b.f0 by omega)]
          exact ev_some
        · simp only [if_neg h6, if_neg (show ¬ a.f0 = b.f0 by omega)]
          exact ev_some
      · have h5 : a.f0 = 3 := by
          simp [kp, h1, h3] at ha
          exact ha.1
        simp only [if_neg h3, if_pos h5]
        by_cases h6 : b.f0 = 3
        · simp only [if_pos h6, if_pos (show a.f0 = b.f0 by omega)]
          exact ev_some
        · simp only [if_neg h6, if_neg (show ¬ a.f0 = b.f0 by omega)]
          exact ev_some

theorem rcovers_eq (a b : S33) : Ev (fun k => erewhileref35_Covers.f k a.f0 a.f1 a.f2 b.f0 b.f1 b.f2) (cov a b) := by
  simp only [erewhileref35_Covers.f, rkeeps_eq, Option.bind_some]
  unfold cov
  cases ha : kp a with
  | false =>
    simp only [Bool.false_eq_true, if_false, Bool.false_and]
    refine ev_succ ?_
    simp only [erewhileref35_Covers.j0, if_true]
    exact ev_some
  | true =>
    simp only [if_true, Bool.true_and]
    cases hb : kp b with
    | false =>
      simp only [Bool.false_eq_true, if_false, Bool.false_and]
      refine ev_succ ?_
      simp only [erewhileref35_Covers.j0, if_true]
      exact ev_some
    | true =>
      simp only [if_true, Bool.true_and]
      have h := rj0_eq a b ha (decide (a.f2 < b.f2))
      have e : (!decide (a.f2 < b.f2)) = decide (b.f2 ≤ a.f2) := by
        by_cases h : a.f2 < b.f2
        · have h' : ¬ b.f2 ≤ a.f2 := by omega
          simp [h, h']
        · have h' : b.f2 ≤ a.f2 := by omega
          simp [h, h']
      rw [e] at h
      exact h

theorem rj1_eq (a b : S33) (i j : Int) (q : Bool) :
    Ev (fun k => erewhileref35_why.j1 k i j q a.f0 a.f1 a.f2 b.f0 b.f1 b.f2) (if q = true then 2 else if (cov b a && (!cov a b || decide (i > j))) = true then 3 else 0) := by
  refine ev_succ ?_
  simp only [erewhileref35_why.j1]
  cases q with
  | true => simpa using ev_some
  | false =>
    simp only [Bool.false_eq_true, if_false]
    refine Ev.bind (rcovers_eq b a) ?_
    cases hc : cov b a with
    | false => simpa using ev_some
    | true =>
      simp only [if_true, Bool.true_and]
      refine Ev.bind (rcovers_eq a b) ?_
      cases hd : cov a b with
      | false => simpa using ev_some
      | true =>
        by_cases h : i > j
        · simp only [if_true, if_pos h]; simpa [h] using ev_some
        · simp only [if_true, if_neg h]; simpa [h] using ev_some

theorem rwhy0_eq (a b : S33) (i j : Int) (q : Bool) (hq : q = (kp a && b.f0 == 4 && decide (b.f2 < a.f2))) :
    Ev (fun k => erewhileref35_why.j0 k i j q a.f0 a.f1 a.f2 b.f0 b.f1 b.f2) (whyP a b (decide (i > j))) := by
  refine ev_succ ?_
  simp only [erewhileref35_why.j0]
  unfold whyP
  rw [← hq]
  cases q with
  | true => simpa using ev_some
  | false =>
    simp only [Bool.false_eq_true, if_false]
    by_cases h1 : a.f0 = 4
    · by_cases h2 : b.f0 = 4
      · simp only [if_pos h1, if_pos h2]
        simpa [h1, h2] using rj1_eq a b i j (decide (i > j))
      · simp only [if_pos h1, if_neg h2]
        simpa [h1, h2] using rj1_eq a b i j false
    · simp only [if_neg h1]
      simpa [h1] using rj1_eq a b i j false

theorem rwhy_eq (l : List S33) (i j : Nat) (hi : i < l.length) (hj : j < l.length) :
    Ev (fun k => erewhileref35_why.f k l i j) (whyP (l.getD i z33) (l.getD j z33) (decide (j < i))) := by
  have e1 : rd_T33 l i = l.getD i z33 := rfl
  have e2 : rd_T33 l j = l.getD j z33 := rfl
  have hi' : (i : Int) < (l.length : Int) := by omega
  have hj' : (j : Int) < (l.length : Int) := by omega
  have hi0 : (0 : Int) ≤ (i : Int) := by omega
  have hj0 : (0 : Int) ≤ (j : Int) := by omega
  have e3 : decide (j < i) = decide ((i : Int) > (j : Int)) := by
    by_cases h : j < i
    · have : (i : Int) > (j : Int) := by omega
      simp [h, this]
    · have : ¬ (i : Int) > (j : Int) := by omega
      simp [h, this]
  simp only [erewhileref35_why.f, if_pos hi0, if_pos hj0, if_pos hi', if_pos hj', rkeeps_eq, Option.bind_some, e1, e2]
  generalize l.getD i z33 = a
  generalize l.getD j z33 = b
  rw [e3]
  cases ha : kp a with
  | false =>
    simp only [Bool.false_eq_true, if_false]
    exact rwhy0_eq a b i j false (by simp [ha])
  | true =>
    simp only [if_true]
    by_cases h2 : b.f0 = 4
    · simp only [if_pos h2]
      exact rwhy0_eq a b i j _ (by simp [ha, h2])
    · simp only [if_neg h2]
      exact rwhy0_eq a b i j false (by simp [ha, h2])

def toR (c : S30) : S31 := ⟨c.f0, c.f1, c.f2⟩
theorem whyP_nonneg (a b : S33) (g : Bool) : 0 ≤ whyP a b g := by
  unfold whyP
  split
  · omega
  · split
    · omega
    · split <;> omega

theorem rl1_ev (l : List S33) (hl : l.length ≤ 1000) (base : List S31) (hb : base.length ≤ 1000000) (i : Nat) (hi : i < l.length) (r : List S31)
    (h : Ev (fun k => erewhileref35_Check.l0 k l (base ++ (row l i l.length).map toR) ((i + 1 : Nat) : Int)) r) :
    ∀ d j : Nat, j + d = l.length → Ev (fun k => erewhileref35_Check.l1 k l (base ++ (row l i j).map toR) i (j : Int)) r
  | 0, j, hj => by
    obtain rfl : j = l.length := by omega
    refine ev_succ ?_
    have h1 : ¬ (l.length : Int) < (l.length : Int) := by omega
    simp only [erewhileref35_Check.l1, if_neg h1, wrap_succ i (by omega)]
    exact h
  | d + 1, j, hj => by
    have ih := rl1_ev l hl base hb i hi r h d (j + 1) (by omega)
    refine ev_succ ?_
    have h1 : (j : Int) < (l.length : Int) := by omega
    simp only [erewhileref35_Check.l1, if_pos h1, wrap_succ j (by omega)]
    rw [row_succ, List.map_append, ← List.append_assoc] at ih
    by_cases hij : i = j
    · have hij' : (i : Int) = (j : Int) := by omega
      simp only [if_pos hij']
      have e : one l i j = [] := by unfold one; rw [if_pos hij]
      rw [e, List.map_nil, List.append_nil] at ih
      exact ih
    · have hij' : ¬ (i : Int) = (j : Int) := by omega
      simp only [if_neg hij']
      refine Ev.bind (rwhy_eq l i j hi (by omega)) ?_
      have hn := whyP_nonneg (l.getD i z33) (l.getD j z33) (decide (j < i))
      by_cases hw : whyP (l.getD i z33) (l.getD j z33) (decide (j < i)) = 0
      · have hw' : ¬ whyP (l.getD i z33) (l.getD j z33) (decide (j < i)) > 0 := by omega
        simp only [if_neg hw']
        have e : one l i j = [] := by unfold one; rw [if_neg hij, if_pos hw]
        rw [e, List.map_nil, List.append_nil] at ih
        exact ih
      · have hw' : whyP (l.getD i z33) (l.getD j z33) (decide (j < i)) > 0 := by omega
        have hlen : (base ++ (row l i j).map toR).length < 5864062014805 := by
          rw [List.length_append, List.length_map]
          have := row_len l i j
          omega
        simp only [if_pos hw']
        refine Ev.bind (rwhy_eq l i j hi (by omega)) ?_
        simp only [if_pos hlen]
        have e : one l i j = [⟨i, j, whyP (l.getD i z33) (l.getD j z33) (decide (j < i))⟩] := by unfold one; rw [if_neg hij, if_neg hw]
        rw [e] at ih
        exact ih

theorem rl0_ev (l : List S33) (hl : l.length ≤ 1000) : ∀ d i : Nat, i + d = l.length → Ev (fun k => erewhileref35_Check.l0 k l ((chk l i).map toR) (i : Int)) ((chk l l.length).map toR)
  | 0, i, hi => by
    obtain rfl : i = l.length := by omega
    refine ev_succ ?_
    have h1 : ¬ (l.length : Int) < (l.length : Int) := by omega
    simp only [erewhileref35_Check.l0, if_neg h1]
    exact ev_some
  | d + 1, i, hi => by
    have ih := rl0_ev l hl d (i + 1) (by omega)
    refine ev_succ ?_
    have h1 : (i : Int) < (l.length : Int) := by omega
    simp only [erewhileref35_Check.l0, if_pos h1]
    rw [chk_succ, List.map_append] at ih
    have hb : ((chk l i).map toR).length ≤ 1000000 := by
      rw [List.length_map]
      have h2 := chk_len l i
      have h3 : i * l.length ≤ 1000 * 1000 := Nat.mul_le_mul (by omega) hl
      omega
    have := rl1_ev l hl ((chk l i).map toR) hb i (by omega) _ ih l.length 0 (by omega)
    simpa [row] using this

theorem rcheck_ev (l : List S33) (hl : l.length ≤ 1000) : Ev (fun k => erewhileref35_Check.f k l) ((chk l l.length).map toR) := by
  simp only [erewhileref35_Check.f]
  have := rl0_ev l hl l.length 0 (by omega)
  simpa [chk] using this
end Go.Proofs.Ytlfkdbfbkgcgnaa.Pl
