/-
  What the program's calcheck and the document's answer compute, in plain Lean: whatever the rules, 'Check' tells the list 'chk', as long as the list has at most 1000 rules.
-/
import Derived.Test.YtlfkdbfbkgcgnaaAllx4
import Derived.Test.YtlfkdbfbkgcgnaaAllx5
import Derived.Test.YtlfkdbfbkgcgnaaAllx6
import Derived.Test.YtlfkdbfbkgcgnaaAllx7
import Derived.Test.YtlfkdbfbkgcgnaaAllx8
namespace Go.Proofs.Ytlfkdbfbkgcgnaa.Pl
open Go.RowKit Go.Proofs.Ytlfkdbfbkgcgnaa.All Go.Proofs.YtlfkdbfbkgcgnaaW.PrintWords
set_option linter.unusedVariables false
set_option linter.unusedSimpArgs false

theorem ev_succ {α : Type} {g : Nat → Option α} {r : α} (h : Ev (fun k => g (k + 1)) r) : Ev g r := Ev.step (fun _ => rfl) h
theorem ev_some {α : Type} {r : α} : Ev (fun _ => some r) r := Ev.now r
theorem wrap_succ (j : Nat) (h : j < 1000000) : wrap64 ((j : Int) + 1) = ((j + 1 : Nat) : Int) := by
  unfold wrap64
  omega

/-! ### the rules' relations -/
def kp (a : S33) : Bool := a.f0 == 1 || (a.f0 == 2 && decide (a.f1 ≥ 1)) || (a.f0 == 3 && decide (a.f1 ≥ 0))
def fit (a b : S33) : Bool := if a.f0 = 1 then true else if a.f0 = b.f0 then (if a.f0 = 2 then Int.tmod b.f1 a.f1 == 0 else decide (a.f1 ≤ b.f1)) else false
def cov (a b : S33) : Bool := kp a && kp b && decide (b.f2 ≤ a.f2) && fit a b
def whyP (a b : S33) (gt : Bool) : Int :=
  if (kp a && b.f0 == 4 && decide (b.f2 < a.f2)) = true then 1
  else if (a.f0 == 4 && b.f0 == 4 && gt) = true then 2
  else if (cov b a && (!cov a b || gt)) = true then 3 else 0

theorem keeps_eq (a : S33) : calcheck_keeps.f a.f0 a.f1 a.f2 = some (kp a) := by
  unfold calcheck_keeps.f kp
  by_cases h1 : a.f0 = 1
  · simp [h1]
  · by_cases h2 : a.f0 = 2
    · simp [h2]
    · by_cases h3 : a.f0 = 3
      · simp [h3]
      · simp [h1, h2, h3]

theorem j0_eq (a b : S33) (ha : kp a = true) (q : Bool) : Ev (fun k => calcheck_covers.j0 k q a.f0 a.f1 a.f2 b.f0 b.f1 b.f2) (!q && fit a b) := by
  refine ev_succ ?_
  simp only [calcheck_covers.j0]
  cases q with
  | true => simpa using ev_some
  | false =>
    simp only [Bool.not_false, Bool.true_and, Bool.false_eq_true, if_false]
    unfold fit
    by_cases h1 : a.f0 = 1
    · simp only [if_pos h1]; exact ev_some
    · by_cases h2 : a.f0 = b.f0
      · by_cases h3 : a.f0 = 2
        · have h4 : a.f1 ≠ 0 := by
            intro h4
            simp [kp, h3, h4] at ha
          simp only [if_neg h1, if_pos h2, if_pos h3, if_neg h4]
          exact ev_some
        · simp only [if_neg h1, if_pos h2, if_neg h3]
          exact ev_some
      · simp only [if_neg h1, if_neg h2]
        exact ev_some

theorem covers_eq (a b : S33) : Ev (fun k => calcheck_covers.f k a.f0 a.f1 a.f2 b.f0 b.f1 b.f2) (cov a b) := by
  simp only [calcheck_covers.f, keeps_eq, Option.bind_some]
  unfold cov
  cases ha : kp a with
  | false =>
    simp only [Bool.false_eq_true, if_false, Bool.false_and]
    refine ev_succ ?_
    simp only [calcheck_covers.j0, if_true]
    exact ev_some
  | true =>
    simp only [if_true, Bool.true_and]
    cases hb : kp b with
    | false =>
      simp only [Bool.false_eq_true, if_false, Bool.false_and]
      refine ev_succ ?_
      simp only [calcheck_covers.j0, if_true]
      exact ev_some
    | true =>
      simp only [if_true, Bool.true_and]
      have h := j0_eq a b ha (decide (a.f2 < b.f2))
      have e : (!decide (a.f2 < b.f2)) = decide (b.f2 ≤ a.f2) := by
        by_cases h : a.f2 < b.f2
        · have h' : ¬ b.f2 ≤ a.f2 := by omega
          simp [h, h']
        · have h' : b.f2 ≤ a.f2 := by omega
          simp [h, h']
      rw [e] at h
      exact h

theorem j1_eq (a b : S33) (i j : Int) (q : Bool) :
    Ev (fun k => calcheck_why.j1 k i j q a.f0 a.f1 a.f2 b.f0 b.f1 b.f2) (if q = true then 2 else if (cov b a && (!cov a b || decide (i > j))) = true then 3 else 0) := by
  refine ev_succ ?_
  simp only [calcheck_why.j1]
  cases q with
  | true => simpa using ev_some
  | false =>
    simp only [Bool.false_eq_true, if_false]
    refine Ev.bind (covers_eq b a) ?_
    cases hc : cov b a with
    | false => simpa using ev_some
    | true =>
      simp only [if_true, Bool.true_and]
      refine Ev.bind (covers_eq a b) ?_
      cases hd : cov a b with
      | false => simpa using ev_some
      | true =>
        by_cases h : i > j
        · simp only [if_true, if_pos h]; simpa [h] using ev_some
        · simp only [if_true, if_neg h]; simpa [h] using ev_some

theorem why0_eq (a b : S33) (i j : Int) (q : Bool) (hq : q = (kp a && b.f0 == 4 && decide (b.f2 < a.f2))) :
    Ev (fun k => calcheck_why.j0 k i j q a.f0 a.f1 a.f2 b.f0 b.f1 b.f2) (whyP a b (decide (i > j))) := by
  refine ev_succ ?_
  simp only [calcheck_why.j0]
  unfold whyP
  rw [← hq]
  cases q with
  | true => simpa using ev_some
  | false =>
    simp only [Bool.false_eq_true, if_false]
    by_cases h1 : a.f0 = 4
    · by_cases h2 : b.f0 = 4
      · simp only [if_pos h1, if_pos h2]
        simpa [h1, h2] using j1_eq a b i j (decide (i > j))
      · simp only [if_pos h1, if_neg h2]
        simpa [h1, h2] using j1_eq a b i j false
    · simp only [if_neg h1]
      simpa [h1] using j1_eq a b i j false

theorem why_eq (l : List S33) (i j : Nat) (hi : i < l.length) (hj : j < l.length) :
    Ev (fun k => calcheck_why.f k l i j) (whyP (l.getD i z33) (l.getD j z33) (decide (j < i))) := by
  have e1 : rd_T33 l i = l.getD i z33 := rfl
  have e2 : rd_T33 l j = l.getD j z33 := rfl
  have hi' : (i : Int) < (l.length : Int) := by omega
  have hj' : (j : Int) < (l.length : Int) := by omega
  have hi0 : (0 : Int) ≤ (i : Int) := by omega
  have hj0 : (0 : Int) ≤ (j : Int) := by omega
  have e3 : decide (j < i) = decide ((i : Int) > (j : Int)) := by
    by_cases h : j < i
    · have : (i : Int) > (j : Int) := by omega
      simp [h, this]
    · have : ¬ (i : Int) > (j : Int) := by omega
      simp [h, this]
  simp only [calcheck_why.f, if_pos hi0, if_pos hj0, if_pos hi', if_pos hj', keeps_eq, Option.bind_some, e1, e2]
  generalize l.getD i z33 = a
  generalize l.getD j z33 = b
  rw [e3]
  cases ha : kp a with
  | false =>
    simp only [Bool.false_eq_true, if_false]
    exact why0_eq a b i j false (by simp [ha])
  | true =>
    simp only [if_true]
    by_cases h2 : b.f0 = 4
    · simp only [if_pos h2]
      exact why0_eq a b i j _ (by simp [ha, h2])
    · simp only [if_neg h2]
      exact why0_eq a b i j false (by simp [ha, h2])

/-! ### the list of clashes -/
def one (l : List S33) (i j : Nat) : List S30 :=
  if i = j then [] else if whyP (l.getD i z33) (l.getD j z33) (decide (j < i)) = 0 then [] else [⟨i, j, whyP (l.getD i z33) (l.getD j z33) (decide (j < i))⟩]
def row (l : List S33) (i n : Nat) : List S30 := (List.range n).flatMap (one l i)
def chk (l : List S33) (m : Nat) : List S30 := (List.range m).flatMap (fun i => row l i l.length)

theorem one_len (l : List S33) (i j : Nat) : (one l i j).length ≤ 1 := by
  unfold one
  split
  · simp
  · split <;> simp
theorem row_succ (l : List S33) (i n : Nat) : row l i (n + 1) = row l i n ++ one l i n := by
  simp [row, List.range_succ]
theorem row_len (l : List S33) (i : Nat) : ∀ n, (row l i n).length ≤ n
  | 0 => by simp [row]
  | n + 1 => by
    rw [row_succ, List.length_append]
    have := row_len l i n
    have := one_len l i n
    omega
theorem chk_succ (l : List S33) (m : Nat) : chk l (m + 1) = chk l m ++ row l m l.length := by
  simp [chk, List.range_succ]
theorem chk_len (l : List S33) : ∀ m, (chk l m).length ≤ m * l.length
  | 0 => by simp [chk]
  | m + 1 => by
    rw [chk_succ, List.length_append]
    have := chk_len l m
    have := row_len l m l.length
    rw [Nat.succ_mul]
    omega

theorem l1_ev (l : List S33) (hl : l.length ≤ 1000) (base : List S30) (hb : base.length ≤ 1000000) (i : Nat) (hi : i < l.length) (r : List S30)
    (h : Ev (fun k => calcheck_Check.l0 k l (base ++ row l i l.length) l.length ((i + 1 : Nat) : Int)) r) :
    ∀ d j : Nat, j + d = l.length → Ev (fun k => calcheck_Check.l1 k l (base ++ row l i j) i l.length i l.length (j : Int)) r
  | 0, j, hj => by
    obtain rfl : j = l.length := by omega
    refine ev_succ ?_
    have h1 : ¬ (l.length : Int) < (l.length : Int) := by omega
    simp only [calcheck_Check.l1, if_neg h1, wrap_succ i (by omega)]
    exact h
  | d + 1, j, hj => by
    have ih := l1_ev l hl base hb i hi r h d (j + 1) (by omega)
    refine ev_succ ?_
    have h1 : (j : Int) < (l.length : Int) := by omega
    simp only [calcheck_Check.l1, if_pos h1, wrap_succ j (by omega)]
    rw [row_succ, ← List.append_assoc] at ih
    by_cases hij : i = j
    · have hij' : (i : Int) = (j : Int) := by omega
      simp only [if_pos hij']
      have e : one l i j = [] := by unfold one; rw [if_pos hij]
      rw [e, List.append_nil] at ih
      exact ih
    · have hij' : ¬ (i : Int) = (j : Int) := by omega
      simp only [if_neg hij']
      refine Ev.bind (why_eq l i j hi (by omega)) ?_
      by_cases hw : whyP (l.getD i z33) (l.getD j z33) (decide (j < i)) = 0
      · simp only [if_pos hw]
        have e : one l i j = [] := by unfold one; rw [if_neg hij, if_pos hw]
        rw [e, List.append_nil] at ih
        exact ih
      · have hlen : (base ++ row l i j).length < 5864062014805 := by
          rw [List.length_append]
          have := row_len l i j
          omega
        simp only [if_neg hw, if_pos hlen]
        have e : one l i j = [⟨i, j, whyP (l.getD i z33) (l.getD j z33) (decide (j < i))⟩] := by unfold one; rw [if_neg hij, if_neg hw]
        rw [e] at ih
        exact ih

theorem l0_ev (l : List S33) (hl : l.length ≤ 1000) : ∀ d i : Nat, i + d = l.length → Ev (fun k => calcheck_Check.l0 k l (chk l i) l.length (i : Int)) (chk l l.length)
  | 0, i, hi => by
    obtain rfl : i = l.length := by omega
    refine ev_succ ?_
    have h1 : ¬ (l.length : Int) < (l.length : Int) := by omega
    simp only [calcheck_Check.l0, if_neg h1]
    exact ev_some
  | d + 1, i, hi => by
    have ih := l0_ev l hl d (i + 1) (by omega)
    refine ev_succ ?_
    have h1 : (i : Int) < (l.length : Int) := by omega
    simp only [calcheck_Check.l0, if_pos h1]
    rw [chk_succ] at ih
    have hb : (chk l i).length ≤ 1000000 := by
      have h2 := chk_len l i
      have h3 : i * l.length ≤ 1000 * 1000 := Nat.mul_le_mul (by omega) hl
      omega
    have := l1_ev l hl (chk l i) hb i (by omega) _ ih l.length 0 (by omega)
    simpa [row] using this

theorem check_ev (l : List S33) (hl : l.length ≤ 1000) : Ev (fun k => calcheck_Check.f k l) (chk l l.length) := by
  simp only [calcheck_Check.f]
  have := l0_ev l hl l.length 0 (by omega)
  simpa [chk] using this

theorem sound_ev (l : List S33) (hl : l.length ≤ 1000) : Ev (fun k => calcheck_Sound.f k l) (decide ((chk l l.length).length = 0)) := by
  simp only [calcheck_Sound.f]
  refine Ev.bind (check_ev l hl) ?_
  have e : (((chk l l.length).length : Int) == 0) = decide ((chk l l.length).length = 0) := by
    rw [Bool.eq_iff_iff]
    simp
  rw [e]
  exact ev_some

theorem awake_ev : Ev (fun k => erewhilelaw35_awake.f k) true := by
  simp only [erewhilelaw35_awake.f]
  refine Ev.bind (check_ev _ (by simp)) ?_
  have e : chk [(⟨1, 0, 60⟩ : S33), (⟨2, 10, 50⟩ : S33)] [(⟨1, 0, 60⟩ : S33), (⟨2, 10, 50⟩ : S33)].length = [⟨1, 0, 3⟩] := by rfl
  rw [e]
  have e1 : (([⟨1, 0, 3⟩] : List S30).length : Int) = 1 := rfl
  have e2 : (0 : Int) < (1 : Int) := by omega
  have e3 : rd_T30 [⟨1, 0, 3⟩] 0 = ⟨1, 0, 3⟩ := rfl
  simp only [e1, if_true, if_pos e2, e3]
  have e4 : ((1 : Int) == 1 && ((0 : Int) == 0 && ((3 : Int) == 3))) = true := by decide
  simp only [e4, if_true]
  have := sound_ev [] (by simp)
  refine Ev.bind this ?_
  have e5 : decide ((chk [] ([] : List S33).length).length = 0) = true := by decide
  simp only [e5, if_true]
  exact ev_some

/-! ### what is in it -/
theorem mem_one {l : List S33} {i j : Nat} {c : S30} : c ∈ one l i j ↔ i ≠ j ∧ whyP (l.getD i z33) (l.getD j z33) (decide (j < i)) ≠ 0 ∧ c = ⟨i, j, whyP (l.getD i z33) (l.getD j z33) (decide (j < i))⟩ := by
  unfold one
  split
  · rename_i h; simp [h]
  · rename_i h
    split
    · rename_i h'
      exact ⟨fun hc => absurd hc List.not_mem_nil, fun hc => absurd h' hc.2.1⟩
    · rename_i h'
      exact ⟨fun hc => ⟨h, h', List.mem_singleton.1 hc⟩, fun hc => List.mem_singleton.2 hc.2.2⟩
theorem mem_chk {l : List S33} {c : S30} : c ∈ chk l l.length ↔ ∃ i j, i < l.length ∧ j < l.length ∧ i ≠ j ∧ whyP (l.getD i z33) (l.getD j z33) (decide (j < i)) ≠ 0 ∧ c = ⟨i, j, whyP (l.getD i z33) (l.getD j z33) (decide (j < i))⟩ := by
  unfold chk row
  simp only [List.mem_flatMap, List.mem_range, mem_one]
  constructor
  · rintro ⟨i, hi, j, hj, h⟩
    exact ⟨i, j, hi, hj, h⟩
  · rintro ⟨i, j, hi, hj, h⟩
    exact ⟨i, hi, j, hj, h⟩
end Go.Proofs.Ytlfkdbfbkgcgnaa.Pl
