/-
  What the document's answer (erewhileref33) computes, in plain Lean: the same tokens as the program's. Condition: texts of at most 100000 bytes.
-/
import Derived.Test.YthnifjggnjcenaaDoorLexA
import Derived.Test.YthnifjggnjcenaaDoorAllx9
namespace Go.Proofs.YthnifjggnjcenaaDoor.Pl
open Go.RowKit Go.Proofs.YthnifjggnjcenaaDoor.All Go.Proofs.YthnifjggnjcenaaDoorW.PrintWords
set_option linter.unusedVariables false
set_option linter.unusedSimpArgs false

theorem rletter_is (c : Int) : erewhileref33_letter.f c = some (isLet c) := by
  unfold erewhileref33_letter.f isLet
  by_cases h : c ≥ 97
  · rw [if_pos h]; simp [h]
  · rw [if_neg h]; simp [h]
theorem rdigit_is (c : Int) : erewhileref33_digit.f c = some (isDig c) := by
  unfold erewhileref33_digit.f isDig
  by_cases h : c ≥ 48
  · rw [if_pos h]; simp [h]
  · rw [if_neg h]; simp [h]

/-! ### minutes -/
def enc (x : Int × Bool) : Int := if x.2 = true then x.1 else -1
/-- The document's own loop: -1, where a number is too great or no digit. -/
def refRun (s : ByteArray) : Nat → Nat → Int → Option Int
  | 0, _, n => some n
  | d + 1, i, n => if isDig (bt s i) = true then if i = 1 ∧ bt s 0 = 48 then none else if n * 10 + (bt s i - 48) > 1073741824 then none else refRun s d (i + 1) (n * 10 + (bt s i - 48)) else none
def refEnd (u : Int) : Option Int → Int
  | none => -1
  | some n => if u = 0 then -1 else if n * u > 1073741824 then -1 else n * u

theorem ref_l0 (s : ByteArray) (hs : s.size ≤ 100000) (h2 : 2 ≤ s.size) (u : Int) (hu : 0 ≤ u ∧ u ≤ 1440) : ∀ (d i : Nat) (n : Int), i + d = s.size - 1 → 0 ≤ n → n ≤ 1073741824 →
    Ev (fun k => erewhileref33_Minutes.l0 k s u n (i : Int)) (refEnd u (refRun s d i n))
  | 0, i, n, hi, h0, h1 => by
    refine ev_succ ?_
    have e1 : wrap64 ((s.size : Int) - 1) = (s.size : Int) - 1 := by unfold wrap64; omega
    have e2 : ¬ (i : Int) < (s.size : Int) - 1 := by omega
    have e3 : wrap64 (n * u) = n * u := by
      have : 0 ≤ n * u := Int.mul_nonneg h0 hu.1
      have : n * u ≤ 1073741824 * 1440 := Int.mul_le_mul h1 hu.2 hu.1 (by omega)
      unfold wrap64; omega
    simp only [erewhileref33_Minutes.l0, e1, if_neg e2, e3, refRun, refEnd]
    by_cases c1 : u = 0
    · simp only [if_pos c1]; exact ev_some
    · by_cases c2 : n * u > 1073741824
      · simp only [if_neg c1, if_pos c2]; exact ev_some
      · simp only [if_neg c1, if_neg c2]; exact ev_some
  | d + 1, i, n, hi, h0, h1 => by
    refine ev_succ ?_
    have e1 : wrap64 ((s.size : Int) - 1) = (s.size : Int) - 1 := by unfold wrap64; omega
    have e2 : (i : Int) < (s.size : Int) - 1 := by omega
    have e3 : (0 : Int) ≤ (i : Int) := by omega
    have e4 : (i : Int) < (s.size : Int) := by omega
    have e5 : (0 : Int) < (s.size : Int) := by omega
    simp only [erewhileref33_Minutes.l0, e1, if_pos e2, if_pos e3, if_pos e4, if_pos e5, rdigit_is, Option.bind_some, refRun]
    cases hd : isDig (bt s i) with
    | false =>
      simp only [Bool.false_eq_true, if_false]
      refine ev_succ ?_
      simp only [erewhileref33_Minutes.j2, if_true, refEnd]
      exact ev_some
    | true =>
      simp only [if_true]
      have key : ∀ q : Bool, q = false → Ev (fun k => erewhileref33_Minutes.j2 k s u n i q) (refEnd u (if n * 10 + (bt s i - 48) > 1073741824 then none else refRun s d (i + 1) (n * 10 + (bt s i - 48)))) := by
        rintro q rfl
        refine ev_succ ?_
        have hr : 48 ≤ bt s i ∧ bt s i ≤ 57 := by simpa [isDig] using hd
        have w1 : wrap64 (n * 10) = n * 10 := by unfold wrap64; omega
        have w2 : (bt s i - 48) % 256 = bt s i - 48 := by omega
        have w3 : wrap64 (n * 10 + (bt s i - 48)) = n * 10 + (bt s i - 48) := by unfold wrap64; omega
        simp only [erewhileref33_Minutes.j2, Bool.false_eq_true, if_false, if_pos e3, if_pos e4, w1, w2, w3, wrap_succ i (by omega)]
        by_cases c : n * 10 + (bt s i - 48) > 1073741824
        · simp only [if_pos c]
          exact ev_some
        · simp only [if_neg c]
          exact ref_l0 s hs h2 u hu d (i + 1) _ (by omega) (by omega) (by omega)
      by_cases c1 : i = 1
      · have c1' : (i : Int) = 1 := by omega
        simp only [if_pos c1']
        by_cases c2 : bt s 0 = 48
        · have c2' : (bt s 0 == 48) = true := beq_iff_eq.2 c2
          simp only [c2', if_pos (show i = 1 ∧ bt s 0 = 48 from ⟨c1, c2⟩)]
          refine ev_succ ?_
          simp only [erewhileref33_Minutes.j2, if_true, refEnd]
          exact ev_some
        · have c2' : (bt s 0 == 48) = false := beq_eq_false_iff_ne.2 c2
          simp only [c2', if_neg (show ¬ (i = 1 ∧ bt s 0 = 48) from fun h => c2 h.2)]
          exact key false rfl
      · have c1' : ¬ (i : Int) = 1 := by omega
        simp only [if_neg c1', if_neg (show ¬ (i = 1 ∧ bt s 0 = 48) from fun h => c1 h.1)]
        exact key false rfl

/-- The two loops come to the same, where no number begins with 0. -/
theorem runs_same (s : ByteArray) (hz : bt s 0 = 48 → s.size ≤ 2) (c : Int) : ∀ (d i : Nat) (n : Int), i + d = s.size - 1 → 0 ≤ n → n ≤ 1073741824 →
    refEnd (unit c) (refRun s d i n) = enc (minEnd c (minRun s (isUnit c) d i n))
  | 0, i, n, hi, h0, h1 => by
    simp only [refRun, minRun, refEnd, minEnd]
    cases hu : isUnit c with
    | false =>
      have hz : unit c = 0 := by
        unfold isUnit at hu
        simp at hu
        unfold unit
        rw [if_neg hu.1, if_neg hu.2.1, if_neg hu.2.2]
      simp [hz, enc]
    | true =>
      have hz : unit c ≠ 0 := by
        unfold isUnit at hu
        simp at hu
        unfold unit
        rcases hu with h | h | h <;> subst h <;> decide
      simp only [if_neg hz, if_true]
      by_cases c2 : n * unit c > 1073741824
      · simp [c2, enc]
      · simp [c2, enc]
  | d + 1, i, n, hi, h0, h1 => by
    simp only [refRun, minRun]
    cases hd : isDig (bt s i) with
    | false => cases isUnit c <;> simp [refEnd, minEnd, enc]
    | true =>
      have hr : 48 ≤ bt s i ∧ bt s i ≤ 57 := by simpa [isDig] using hd
      have hc : ¬ (i = 1 ∧ bt s 0 = 48) := fun h => by
        have := hz h.2
        omega
      simp only [if_true, if_neg hc]
      by_cases c1 : n * 10 + (bt s i - 48) > 1073741824
      · simp only [if_pos c1]
        cases hu : isUnit c with
        | false => simp [refEnd, minEnd, enc]
        | true =>
          simp only [if_true, if_neg (show ¬ n > 1073741824 by omega)]
          -- the number stays too great
          have big : ∀ (d i : Nat) (m : Int), m > 1073741824 → enc (minEnd c (minRun s true d i m)) = -1 := by
            intro d
            cases d with
            | zero =>
              intro i m hm
              have h1 : unit c ≥ 1 := by
                unfold isUnit at hu
                simp at hu
                unfold unit
                rcases hu with h | h | h <;> subst h <;> decide
              have : m * unit c > 1073741824 := by
                have h3 : m * 1 ≤ m * unit c := Int.mul_le_mul_of_nonneg_left h1 (by omega)
                omega
              simp [minRun, minEnd, hu, this, enc]
            | succ d =>
              intro i m hm
              simp only [minRun, if_true]
              cases isDig (bt s i) with
              | false => simp [minEnd, enc]
              | true => simp [hm, minEnd, enc]
          rw [show n * 10 + (bt s i - 48) = 10 * n + (bt s i - 48) by omega] at c1
          rw [big _ _ _ c1]
          rfl
      · simp only [if_neg c1]
        have ih := runs_same s hz c d (i + 1) (n * 10 + (bt s i - 48)) (by omega) (by omega) (by omega)
        rw [ih]
        cases hu : isUnit c with
        | false =>
          cases d with
          | zero => simp [minRun, minEnd, hu, enc]
          | succ d => simp [minRun, minEnd, enc]
        | true => simp [show ¬ n > 1073741824 by omega, show n * 10 + (bt s i - 48) = 10 * n + (bt s i - 48) by omega]

theorem refRun_zero (s : ByteArray) (h3 : 2 < s.size) (h0 : bt s 0 = 48) (u : Int) : refEnd u (refRun s (s.size - 1) 0 0) = -1 := by
  obtain ⟨d, hd⟩ : ∃ d, s.size - 1 = d + 1 + 1 := ⟨s.size - 3, by omega⟩
  rw [hd]
  simp only [refRun]
  have e0 : bt s ((0 : Nat) : Int) = bt s 0 := rfl
  rw [e0, h0]
  have hd0 : isDig 48 = true := rfl
  simp only [hd0, if_true]
  simp
  cases isDig (bt s 1) <;> simp [refEnd]

theorem rminutes_ev (s : ByteArray) (hs : s.size ≤ 100000) : Ev (fun k => erewhileref33_Minutes.f k s) (enc (minutesP s)) := by
  unfold minutesP
  by_cases c1 : s.size < 2
  · have h1 : (s.size : Int) < 2 := by omega
    simp only [erewhileref33_Minutes.f, if_pos h1, if_pos c1]
    exact ev_some
  · have h1 : ¬ (s.size : Int) < 2 := by omega
    have e1 : wrap64 ((s.size : Int) - 1) = (s.size : Int) - 1 := by unfold wrap64; omega
    have e2 : (0 : Int) ≤ (s.size : Int) - 1 := by omega
    have e3 : (s.size : Int) - 1 < (s.size : Int) := by omega
    simp only [erewhileref33_Minutes.f, if_neg h1, if_neg c1, e1, if_pos e2, if_pos e3]
    have key : Ev (fun k => erewhileref33_Minutes.j0 k s (unit (bt s ((s.size : Int) - 1)))) (enc (if bt s 0 = 48 ∧ 2 < s.size then ((0 : Int), false) else minEnd (bt s ((s.size : Int) - 1)) (minRun s (isUnit (bt s ((s.size : Int) - 1))) (s.size - 1) 0 0))) := by
      refine ev_succ ?_
      simp only [erewhileref33_Minutes.j0]
      have h := ref_l0 s hs (by omega) (unit (bt s ((s.size : Int) - 1))) (unit_range _) (s.size - 1) 0 0 (by omega) (by omega) (by omega)
      by_cases c2 : bt s 0 = 48 ∧ 2 < s.size
      · rw [if_pos c2]
        rw [refRun_zero s c2.2 c2.1] at h
        exact h
      · rw [if_neg c2]
        rw [runs_same s (fun h0 => by have := fun h => c2 ⟨h0, h⟩; omega) _ (s.size - 1) 0 0 (by omega) (by omega) (by omega)] at h
        exact h
    generalize bt s ((s.size : Int) - 1) = c at *
    unfold unit at key
    by_cases u1 : c = 109
    · simp only [if_pos u1] at key ⊢; exact key
    · by_cases u2 : c = 104
      · simp only [if_neg u1, if_pos u2] at key ⊢; exact key
      · by_cases u3 : c = 100
        · simp only [if_neg u1, if_neg u2, if_pos u3] at key ⊢; exact key
        · simp only [if_neg u1, if_neg u2, if_neg u3] at key ⊢; exact key

/-! ### tokens -/
def toR (t : S46) : S64 := ⟨t.f0, t.f1, t.f2, t.f3⟩
def conv (x : List S46 × Int × Int) : List S64 × Int := if x.2.2 = 0 then (x.1.map toR, -1) else ([], x.2.1)
theorem minutesP_nonneg (s : ByteArray) : (minutesP s).2 = true → 0 ≤ (minutesP s).1 := by
  unfold minutesP
  split
  · intro h; cases h
  · split
    · intro h; cases h
    · have hm : ∀ (ok : Bool) (d i : Nat) (n : Int), 0 ≤ n → ∀ m, minRun s ok d i n = some m → 0 ≤ m := by
        intro ok d
        induction d with
        | zero => intro i n h0 m hm; simp only [minRun, Option.some.injEq] at hm; omega
        | succ d ih =>
          intro i n h0 m hm
          simp only [minRun] at hm
          split at hm
          · split at hm
            · rename_i hd
              split at hm
              · cases hm
              · have hr : 48 ≤ bt s i ∧ bt s i ≤ 57 := by simpa [isDig] using hd
                exact ih _ _ (by omega) _ hm
            · cases hm
          · cases hm
      generalize hg : minRun s (isUnit (bt s ((s.size : Int) - 1))) (s.size - 1) 0 0 = o
      cases o with
      | none => intro h; cases h
      | some n =>
        have h0 := hm _ _ _ _ (by omega) _ hg
        have hu := unit_range (bt s ((s.size : Int) - 1))
        simp only [minEnd]
        split
        · split
          · intro h; cases h
          · intro _; exact Int.mul_nonneg h0 hu.1
        · intro h; cases h

theorem rlex_l1 (s : ByteArray) (hs : s.size ≤ 100000) (acc : List S64) (ha : acc.length ≤ 100000) (i : Nat) (hi : i ≤ s.size) (r : List S64 × Int) :
    ∀ (d j : Nat), j + d = s.size → i ≤ j → Ev (fun k => erewhileref33_Lex.l0 k s (acc ++ [⟨1, s.extract i (run isLet s d j), 0, i⟩]) ((run isLet s d j : Nat) : Int)) r → Ev (fun k => erewhileref33_Lex.l1 k s acc i (j : Int)) r
  | 0, j, hj, hij, h => by
    obtain rfl : j = s.size := by omega
    refine ev_succ ?_
    have h1 : ¬ (s.size : Int) < (s.size : Int) := by omega
    have h0 : (0 : Int) ≤ (i : Int) := by omega
    have h2 : (i : Int) ≤ (s.size : Int) := by omega
    have h3 : (s.size : Int) ≤ (s.size : Int) := by omega
    have h4 : acc.length < 3518437208883 := by omega
    simp only [erewhileref33_Lex.l1, if_neg h1, if_pos h0, if_pos h2, if_pos h3, if_pos h4, Int.toNat_natCast]
    exact h
  | d + 1, j, hj, hij, h => by
    refine ev_succ ?_
    have h1 : (j : Int) < (s.size : Int) := by omega
    have h0 : (0 : Int) ≤ (i : Int) := by omega
    have h0j : (0 : Int) ≤ (j : Int) := by omega
    have h2 : (i : Int) ≤ (j : Int) := by omega
    have h3 : (j : Int) ≤ (s.size : Int) := by omega
    have h4 : acc.length < 3518437208883 := by omega
    simp only [erewhileref33_Lex.l1, if_pos h1, if_pos h0, if_pos h0j, if_pos h2, if_pos h3, if_pos h4, Int.toNat_natCast, rletter_is, Option.bind_some, wrap_succ j (by omega)]
    unfold run at h
    cases hl : isLet (bt s j) with
    | true =>
      simp only [if_true]
      rw [if_pos hl] at h
      exact rlex_l1 s hs acc ha i hi r d (j + 1) (by omega) (by omega) h
    | false =>
      simp only [Bool.false_eq_true, if_false]
      rw [if_neg (by rw [hl]; decide)] at h
      exact h

theorem rlex_l2 (s : ByteArray) (hs : s.size ≤ 100000) (acc : List S64) (ha : acc.length ≤ 100000) (i : Nat) (hi : i ≤ s.size) (r : List S64 × Int) :
    ∀ (d j : Nat), j + d = s.size → i ≤ j →
      ((minutesP (s.extract i (run isBoth s d j))).2 = true → Ev (fun k => erewhileref33_Lex.l0 k s (acc ++ [⟨2, s.extract i (run isBoth s d j), (minutesP (s.extract i (run isBoth s d j))).1, i⟩]) ((run isBoth s d j : Nat) : Int)) r) →
      ((minutesP (s.extract i (run isBoth s d j))).2 = false → r = ([], (i : Int))) → Ev (fun k => erewhileref33_Lex.l2 k s acc i (j : Int)) r
  | 0, j, hj, hij, h, hf => by
    obtain rfl : j = s.size := by omega
    refine ev_succ ?_
    have h1 : ¬ (s.size : Int) < (s.size : Int) := by omega
    have h0 : (0 : Int) ≤ (i : Int) := by omega
    have h2 : (i : Int) ≤ (s.size : Int) := by omega
    have h3 : (s.size : Int) ≤ (s.size : Int) := by omega
    have h4 : acc.length < 3518437208883 := by omega
    simp only [erewhileref33_Lex.l2, if_neg h1, if_pos h0, if_pos h2, if_pos h3, if_pos h4, Int.toNat_natCast]
    simp only [run] at h hf
    refine Ev.bind (rminutes_ev _ (by rw [size_extract _ _ _ (Nat.le_refl _)]; omega)) ?_
    unfold enc
    cases hm : (minutesP (s.extract i s.size)).2 with
    | true =>
      have hn := minutesP_nonneg _ hm
      simp only [if_true, if_neg (show ¬ (minutesP (s.extract i s.size)).1 < 0 by omega)]
      exact h hm
    | false =>
      simp only [Bool.false_eq_true, if_false, if_pos (show (-1 : Int) < 0 by omega)]
      rw [hf hm]
      exact ev_some
  | d + 1, j, hj, hij, h, hf => by
    refine ev_succ ?_
    have h1 : (j : Int) < (s.size : Int) := by omega
    have h0 : (0 : Int) ≤ (i : Int) := by omega
    have h0j : (0 : Int) ≤ (j : Int) := by omega
    have h2 : (i : Int) ≤ (j : Int) := by omega
    have h3 : (j : Int) ≤ (s.size : Int) := by omega
    have h4 : acc.length < 3518437208883 := by omega
    simp only [erewhileref33_Lex.l2, if_pos h1, if_pos h0, if_pos h0j, if_pos h2, if_pos h3, if_pos h4, Int.toNat_natCast, rletter_is, rdigit_is, Option.bind_some, wrap_succ j (by omega)]
    unfold run at h hf
    have go : isBoth (bt s j) = true → Ev (fun k => erewhileref33_Lex.l2 k s acc i ((j + 1 : Nat) : Int)) r := fun hb => by
      rw [if_pos hb] at h hf
      exact rlex_l2 s hs acc ha i hi r d (j + 1) (by omega) (by omega) h hf
    cases hl : isLet (bt s j) with
    | true =>
      simp only [if_true]
      exact go (by simp [isBoth, hl])
    | false =>
      cases hd : isDig (bt s j) with
      | true =>
        simp only [Bool.false_eq_true, if_false, if_true]
        exact go (by simp [isBoth, hd])
      | false =>
        have hb : isBoth (bt s j) = false := by simp [isBoth, hl, hd]
        rw [if_neg (by rw [hb]; decide)] at h hf
        simp only [Bool.false_eq_true, if_false]
        refine Ev.bind (rminutes_ev _ (by rw [size_extract _ _ _ (by omega)]; omega)) ?_
        unfold enc
        cases hm : (minutesP (s.extract i j)).2 with
        | true =>
          have hn := minutesP_nonneg _ hm
          simp only [if_true, if_neg (show ¬ (minutesP (s.extract i j)).1 < 0 by omega)]
          exact h hm
        | false =>
          simp only [Bool.false_eq_true, if_false, if_pos (show (-1 : Int) < 0 by omega)]
          rw [hf hm]
          exact ev_some

theorem rlex_l0 (s : ByteArray) (hs : s.size ≤ 100000) : ∀ (d i : Nat) (acc : List S46), i ≤ s.size → s.size ≤ i + d → acc.length ≤ i → Ev (fun k => erewhileref33_Lex.l0 k s (acc.map toR) (i : Int)) (conv (lexP s d acc i))
  | 0, i, acc, hi, hd, ha => by
    obtain rfl : i = s.size := by omega
    refine ev_succ ?_
    have h1 : ¬ (s.size : Int) < (s.size : Int) := by omega
    have h2 : (acc.map toR).length < 3518437208883 := by simp; omega
    simp only [erewhileref33_Lex.l0, if_neg h1, if_pos h2]
    have e : conv (lexP s 0 acc s.size) = (acc.map toR ++ [(⟨0, (⟨#[]⟩ : ByteArray), 0, (s.size : Int)⟩ : S64)], -1) := by simp [conv, lexP, endTok, toR]
    rw [e]
    exact ev_some
  | d + 1, i, acc, hi, hd, ha => by
    refine ev_succ ?_
    by_cases hlt : i < s.size
    · have h1 : (i : Int) < (s.size : Int) := by omega
      have h0 : (0 : Int) ≤ (i : Int) := by omega
      have h2 : (acc.map toR).length < 3518437208883 := by simp; omega
      simp only [erewhileref33_Lex.l0, lexP, if_pos h1, if_pos h0, if_pos hlt, wrap_succ i (by omega), rletter_is, rdigit_is, Option.bind_some, if_pos h2]
      by_cases c1 : bt s i = 32
      · simp only [if_pos c1]
        exact rlex_l0 s hs d (i + 1) acc (by omega) (by omega) (by omega)
      · by_cases c2 : bt s i = 10
        · simp only [if_neg c1, if_pos c2]
          have := rlex_l0 s hs d (i + 1) (acc ++ [⟨3, ⟨#[]⟩, 0, i⟩]) (by omega) (by omega) (by simp; omega)
          rw [List.map_append] at this
          exact this
        · by_cases c3 : isLet (bt s i) = true
          · have g1 := run_first isLet s i hlt c3
            have g2 := run_le isLet s (s.size - i) i
            simp only [if_neg c1, if_neg c2, if_pos c3]
            refine rlex_l1 s hs _ (by simp; omega) i hi _ (s.size - i) i (by omega) (Nat.le_refl _) ?_
            have := rlex_l0 s hs d _ (acc ++ [⟨1, s.extract i (run isLet s (s.size - i) i), 0, i⟩]) (show run isLet s (s.size - i) i ≤ s.size by omega) (by omega) (by simp; omega)
            rw [List.map_append] at this
            exact this
          · by_cases c4 : isDig (bt s i) = true
            · have c5 : isBoth (bt s i) = true := by unfold isBoth; rw [c4]; rfl
              have g1 := run_first isBoth s i hlt c5
              have g2 := run_le isBoth s (s.size - i) i
              simp only [if_neg c1, if_neg c2, if_neg c3, if_pos c4]
              refine rlex_l2 s hs _ (by simp; omega) i hi _ (s.size - i) i (by omega) (Nat.le_refl _) (fun hm => ?_) (fun hm => ?_)
              · rw [if_pos hm]
                have := rlex_l0 s hs d _ (acc ++ [⟨2, s.extract i (run isBoth s (s.size - i) i), (minutesP (s.extract i (run isBoth s (s.size - i) i))).1, i⟩]) (show run isBoth s (s.size - i) i ≤ s.size by omega) (by omega) (by simp; omega)
                rw [List.map_append] at this
                exact this
              · rw [if_neg (by rw [hm]; decide)]
                simp [conv]
            · simp only [if_neg c1, if_neg c2, if_neg c3, if_neg c4]
              have e : conv (([], (i : Int), 17) : List S46 × Int × Int) = ([], (i : Int)) := by simp [conv]
              rw [e]
              exact ev_some
    · obtain rfl : i = s.size := by omega
      have h1 : ¬ (s.size : Int) < (s.size : Int) := by omega
      have h2 : (acc.map toR).length < 3518437208883 := by simp; omega
      simp only [erewhileref33_Lex.l0, lexP, if_neg h1, if_neg hlt, if_pos h2]
      have e : conv (acc ++ [endTok s], 0, 0) = (acc.map toR ++ [(⟨0, (⟨#[]⟩ : ByteArray), 0, (s.size : Int)⟩ : S64)], -1) := by simp [conv, endTok, toR]
      rw [e]
      exact ev_some
theorem rlex_ev (s : ByteArray) (hs : s.size ≤ 100000) : Ev (fun k => erewhileref33_Lex.f k s) (conv (lexS s)) := by
  simp only [erewhileref33_Lex.f]
  exact rlex_l0 s hs s.size 0 [] (by omega) (by omega) (by simp)
end Go.Proofs.YthnifjggnjcenaaDoor.Pl
