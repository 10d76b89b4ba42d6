/-
  The text of minutes, in plain Lean: 'textL'. Read back it is the same; no text of the same minutes is shorter. Condition: minutes from 0 to 1073741824.
-/
import Derived.Test.YtonlbeonblpblaaDoorLexL
import Derived.Test.YtonlbeonblpblaaDoorAllx3
namespace Go.Proofs.YtonlbeonblpblaaDoor.Pl
open Go.RowKit Go.Proofs.YtonlbeonblpblaaDoor.All Go.Proofs.YtonlbeonblpblaaDoorW.PrintWords
set_option linter.unusedVariables false
set_option linter.unusedSimpArgs false

theorem toList_lst (s : ByteArray) : s.toList = lst s := ByteArray.toList_eq s

/-! ### digits -/
theorem ch_dig (u : Nat) (h : u < 10) : ch (UInt8.ofNat (48 + u)) = 48 + (u : Int) := by
  unfold ch
  rw [UInt8.toNat_ofNat']
  omega
theorem isDig_dig (u : Nat) (h : u < 10) : isDig (ch (UInt8.ofNat (48 + u))) = true := by
  rw [ch_dig u h]
  simp [isDig]
  omega
theorem dec_small {q : Nat} (h : q < 10) : Lib.decDigits q = [UInt8.ofNat (48 + q)] := Lib.decDigits_one h
theorem dec_big {q : Nat} (h : ¬ q < 10) : Lib.decDigits q = Lib.decDigits (q / 10) ++ [UInt8.ofNat (48 + q % 10)] := by
  rw [Lib.decDigits, dif_neg h]
theorem dec_all (q : Nat) : ∀ c ∈ Lib.decDigits q, isDig (ch c) = true := by
  induction q using Nat.strongRecOn with
  | _ q ih =>
    by_cases h : q < 10
    · rw [dec_small h]
      intro c hc
      rw [List.mem_singleton.1 hc]
      exact isDig_dig q h
    · rw [dec_big h]
      intro c hc
      rcases List.mem_append.1 hc with hc | hc
      · exact ih _ (by omega) c hc
      · rw [List.mem_singleton.1 hc]
        exact isDig_dig _ (by omega)
theorem dec_ne (q : Nat) : Lib.decDigits q ≠ [] := by
  intro h
  have h1 := Lib.decDigits_length q
  have h2 := Lib.nDigits_pos q
  rw [h] at h1
  simp at h1
  omega
/-- The first digit is none, but of 0. -/
theorem dec_head (q : Nat) (hq : 0 < q) : ∃ c r, Lib.decDigits q = c :: r ∧ ch c ≠ 48 := by
  induction q using Nat.strongRecOn with
  | _ q ih =>
    by_cases h : q < 10
    · refine ⟨_, [], dec_small h, ?_⟩
      rw [ch_dig q h]
      omega
    · obtain ⟨c, r, e, hc⟩ := ih (q / 10) (by omega) (by omega)
      refine ⟨c, r ++ [UInt8.ofNat (48 + q % 10)], ?_, hc⟩
      rw [dec_big h, e]
      rfl
theorem minL_append (l : List UInt8) (c : UInt8) : ∀ n : Int, minL true (l ++ [c]) n = (minL true l n).bind fun m => if isDig (ch c) = true then if m > 1073741824 then none else some (10 * m + (ch c - 48)) else none := by
  induction l with
  | nil => intro n; rfl
  | cons x r ih =>
    intro n
    rw [List.cons_append, minL, minL]
    simp only [if_true]
    split
    · split
      · rfl
      · exact ih _
    · rfl
theorem minL_dec (q : Nat) (h : q / 10 ≤ 1073741824) : minL true (Lib.decDigits q) 0 = some (q : Int) := by
  induction q using Nat.strongRecOn with
  | _ q ih =>
    by_cases h1 : q < 10
    · rw [dec_small h1]
      have h3 : ¬ (0 : Int) > 1073741824 := by omega
      have hd := isDig_dig q h1
      rw [ch_dig q h1] at hd
      simp only [minL, if_true, ch_dig q h1, hd, if_neg h3]
      exact congrArg some (by omega)
    · rw [dec_big h1, minL_append, ih (q / 10) (by omega) (by omega)]
      have h3 : ¬ ((q / 10 : Nat) : Int) > 1073741824 := by omega
      have hd := isDig_dig (q % 10) (by omega)
      rw [ch_dig (q % 10) (by omega)] at hd
      simp only [Option.bind_some, ch_dig (q % 10) (by omega), hd, if_true, if_neg h3]
      exact congrArg some (by omega)
theorem minL_lt (l : List UInt8) : ∀ (n m : Int), 0 ≤ n → minL true l n = some m → 0 ≤ m ∧ m < (n + 1) * 10 ^ l.length := by
  induction l with
  | nil =>
    intro n m hn h
    obtain rfl := Option.some.inj h
    simp
    omega
  | cons c r ih =>
    intro n m hn h
    rw [minL] at h
    simp only [if_true] at h
    split at h
    · rename_i hd
      split at h
      · cases h
      · have hd' : 48 ≤ ch c ∧ ch c ≤ 57 := by simpa [isDig] using hd
        have := ih (10 * n + (ch c - 48)) m (by omega) h
        refine ⟨this.1, Int.lt_of_lt_of_le this.2 ?_⟩
        rw [List.length_cons, Int.pow_succ, Int.mul_comm (10 ^ r.length) 10, ← Int.mul_assoc]
        refine Int.mul_le_mul_of_nonneg_right (by omega) ?_
        exact Int.pow_nonneg (by omega)
    · cases h
theorem nDig_le : ∀ (k m : Nat), m < 10 ^ (k + 1) → Lib.nDigits m ≤ k + 1
  | 0, m, h => by rw [Lib.nDigits_small (by simpa using h)]; omega
  | k + 1, m, h => by
    by_cases h1 : m < 10
    · rw [Lib.nDigits_small h1]; omega
    · rw [Lib.nDigits_big h1]
      have := nDig_le k (m / 10) (by rw [Nat.pow_succ] at h; omega)
      omega

/-! ### the text -/
def numOf (n : Nat) : Nat := if 0 < n ∧ n % 1440 = 0 then n / 1440 else if 0 < n ∧ n % 60 = 0 then n / 60 else n
def unitOf (n : Nat) : UInt8 := if 0 < n ∧ n % 1440 = 0 then 100 else if 0 < n ∧ n % 60 = 0 then 104 else 109
def textL (n : Nat) : List UInt8 := Lib.decDigits (numOf n) ++ [unitOf n]
theorem unit_kinds (n : Nat) : (unitOf n = 100 ∧ 0 < n ∧ n % 1440 = 0 ∧ numOf n = n / 1440) ∨ (unitOf n = 104 ∧ 0 < n ∧ n % 1440 ≠ 0 ∧ n % 60 = 0 ∧ numOf n = n / 60) ∨ (unitOf n = 109 ∧ (n = 0 ∨ n % 60 ≠ 0) ∧ numOf n = n) := by
  unfold unitOf numOf
  by_cases h1 : 0 < n ∧ n % 1440 = 0
  · rw [if_pos h1, if_pos h1]
    exact Or.inl ⟨rfl, h1.1, h1.2, rfl⟩
  · rw [if_neg h1, if_neg h1]
    by_cases h2 : 0 < n ∧ n % 60 = 0
    · rw [if_pos h2, if_pos h2]
      exact Or.inr (Or.inl ⟨rfl, h2.1, by omega, h2.2, rfl⟩)
    · rw [if_neg h2, if_neg h2]
      exact Or.inr (Or.inr ⟨rfl, by omega, rfl⟩)
theorem unit_ok (n : Nat) : isUnit (ch (unitOf n)) = true ∧ (numOf n : Int) * unit (ch (unitOf n)) = n ∧ isDig (ch (unitOf n)) = false ∧ isLet (ch (unitOf n)) = true := by
  rcases unit_kinds n with ⟨e, h⟩ | ⟨e, h⟩ | ⟨e, h⟩
  · rw [e, h.2.2]
    refine ⟨by decide, ?_, by decide, by decide⟩
    have : unit (ch 100) = 1440 := by decide
    rw [this]
    omega
  · rw [e, h.2.2.2]
    refine ⟨by decide, ?_, by decide, by decide⟩
    have : unit (ch 104) = 60 := by decide
    rw [this]
    omega
  · rw [e, h.2]
    refine ⟨by decide, ?_, by decide, by decide⟩
    have : unit (ch 109) = 1 := by decide
    rw [this]
    omega
theorem numOf_le (n : Nat) : numOf n ≤ n := by
  rcases unit_kinds n with ⟨e, h⟩ | ⟨e, h⟩ | ⟨e, h⟩ <;> omega
theorem numOf_pos (n : Nat) (h : 0 < n) : 0 < numOf n := by
  rcases unit_kinds n with ⟨e, h⟩ | ⟨e, h⟩ | ⟨e, h⟩ <;> omega
theorem textL_len (n : Nat) : (textL n).length = Lib.nDigits (numOf n) + 1 := by
  unfold textL
  rw [List.length_append, Lib.decDigits_length]
  rfl
/-- A text as its first byte and the rest. -/
theorem textL_cons (n : Nat) : ∃ c r, textL n = c :: r ∧ isDig (ch c) = true ∧ (ch c = 48 → n = 0) := by
  cases hd : Lib.decDigits (numOf n) with
  | nil => exact absurd hd (dec_ne _)
  | cons c r =>
    refine ⟨c, r ++ [unitOf n], ?_, dec_all _ c (by rw [hd]; simp), ?_⟩
    · unfold textL
      rw [hd]
      rfl
    · intro h0
      refine Nat.eq_zero_of_not_pos fun hp => ?_
      obtain ⟨c', r', e, hc⟩ := dec_head _ (numOf_pos n hp)
      rw [hd] at e
      obtain ⟨rfl, -⟩ := List.cons.inj e
      exact hc h0
theorem textL_last (n : Nat) : (textL n).getLast? = some (unitOf n) := by
  unfold textL
  simp
theorem textL_front (n : Nat) : (textL n).dropLast = Lib.decDigits (numOf n) := by
  unfold textL
  simp
theorem minuL_text (n : Nat) (hn : n ≤ 1073741824) : minuL (textL n) = ((n : Int), true) := by
  obtain ⟨c, r, e, hd, h0⟩ := textL_cons n
  have hl := textL_len n
  have hp := Lib.nDigits_pos (numOf n)
  have hh : (textL n).head? = some c := by rw [e]; rfl
  have hle := numOf_le n
  unfold minuL
  rw [textL_last, hh, textL_front]
  simp only
  rw [if_neg (by omega), if_neg, (unit_ok n).1, minL_dec _ (by omega)]
  · unfold minEnd
    simp only
    rw [if_pos (unit_ok n).1, (unit_ok n).2.1, if_neg (by omega)]
  · rintro ⟨h1, h2⟩
    obtain rfl := h0 h1
    rw [hl] at h2
    have : Lib.nDigits (numOf 0) = 1 := Lib.nDigits_small (by decide)
    omega
theorem textL_inj {n m : Nat} (hn : n ≤ 1073741824) (hm : m ≤ 1073741824) (h : textL n = textL m) : n = m := by
  have h1 := minuL_text n hn
  have h2 := minuL_text m hm
  rw [h, h2] at h1
  have := (Prod.mk.inj h1).1
  omega
/-- No text of the same minutes is shorter. -/
theorem text_least (n : Nat) (l : List UInt8) (h : minuL l = ((n : Int), true)) : (textL n).length ≤ l.length := by
  unfold minuL at h
  cases hg : l.getLast? with
  | none => rw [hg] at h; simp at h
  | some u =>
    cases hh : l.head? with
    | none => rw [hg, hh] at h; simp at h
    | some c =>
      rw [hg, hh] at h
      simp only at h
      by_cases c1 : l.length < 2
      · rw [if_pos c1] at h; simp at h
      · rw [if_neg c1] at h
        by_cases c2 : ch c = 48 ∧ 2 < l.length
        · rw [if_pos c2] at h; simp at h
        · rw [if_neg c2] at h
          have hlen : l.dropLast.length = l.length - 1 := List.length_dropLast ..
          cases hu : isUnit (ch u) with
          | false =>
            rw [hu] at h
            cases hd : l.dropLast with
            | nil => rw [hd] at hlen; simp at hlen; omega
            | cons x r =>
              rw [hd] at h
              simp [minL, minEnd] at h
          | true =>
            rw [hu] at h
            cases hm : minL true l.dropLast 0 with
            | none => rw [hm] at h; simp [minEnd] at h
            | some m =>
              rw [hm] at h
              unfold minEnd at h
              simp only at h
              rw [if_pos hu] at h
              split at h
              · simp at h
              · have hmn := (Prod.mk.inj h).1
                obtain ⟨h0, hlt⟩ := minL_lt _ 0 m (by omega) hm
                rw [hlen] at hlt
                have hk : l.length - 1 = (l.length - 2) + 1 := by omega
                obtain ⟨q, rfl⟩ : ∃ q : Nat, m = (q : Int) := ⟨m.toNat, by omega⟩
                have hq : q < 10 ^ (l.length - 2 + 1) := by
                  rw [← hk]
                  have : (q : Int) < ((10 ^ (l.length - 1) : Nat) : Int) := by simpa using hlt
                  omega
                have hnq : numOf n ≤ q := by
                  have hu' : ch u = 109 ∨ ch u = 104 ∨ ch u = 100 := by simpa [isUnit] using hu
                  have e1 : unit 109 = 1 := by decide
                  have e2 : unit 104 = 60 := by decide
                  have e3 : unit 100 = 1440 := by decide
                  rcases hu' with hu' | hu' | hu' <;> rw [hu'] at hmn <;> rcases unit_kinds n with ⟨e, h⟩ | ⟨e, h⟩ | ⟨e, h⟩ <;> simp only [e1, e2, e3] at hmn <;> omega
                rw [textL_len]
                suffices Lib.nDigits (numOf n) ≤ l.length - 2 + 1 by omega
                exact nDig_le _ _ (Nat.lt_of_le_of_lt hnq hq)

/-! ### the program's Text -/
theorem itoa_nat (q : Nat) (hq : q ≤ 1073741824) : strconv_Itoa.f (q : Int) = some (ofL (Lib.decDigits q)) := by
  unfold strconv_Itoa.f
  rw [if_pos (by omega)]
  unfold Lib.itoa ofL
  rw [if_neg (by omega)]
  rfl
theorem dec_len_le (q : Nat) (hq : q ≤ 1073741824) : (Lib.decDigits q).length ≤ 10 := by
  rw [Lib.decDigits_length]
  exact nDig_le 9 q (by omega)
theorem ofL_size (l : List UInt8) : (ofL l).size = l.length := by rw [← lst_len, lst_ofL]
theorem text_some (n : Nat) (hn : n ≤ 1073741824) : ofL (Lib.decDigits n) ++ (⟨#[109]⟩ : ByteArray) = ofL (Lib.decDigits n ++ [109]) := by
  rw [ofL_append]
  rfl
theorem mod_nat (n k : Nat) : Int.tmod (n : Int) (k : Int) = ((n % k : Nat) : Int) := by
  rw [Int.tmod_eq_emod_of_nonneg (by omega)]
  rfl
theorem div_nat (n k : Nat) : Int.tdiv (n : Int) (k : Int) = ((n / k : Nat) : Int) := by
  rw [Int.tdiv_eq_ediv_of_nonneg (by omega)]
  rfl
theorem text_ev (n : Nat) (hn : n ≤ 1073741824) : Ev (fun k => caltok_Text.f k (n : Int)) (ofL (textL n)) := by
  have h1 : ¬ (n : Int) < 0 := by omega
  have h2 : ¬ (n : Int) > 1073741824 := by omega
  have m1 : Int.tmod (n : Int) 1440 = ((n % 1440 : Nat) : Int) := mod_nat n 1440
  have m2 : Int.tmod (n : Int) 60 = ((n % 60 : Nat) : Int) := mod_nat n 60
  have q1 : wrap64 (Int.tdiv (n : Int) 1440) = ((n / 1440 : Nat) : Int) := by
    rw [show Int.tdiv (n : Int) 1440 = ((n / 1440 : Nat) : Int) from div_nat n 1440]
    exact wrap_nat _ (by omega)
  have q2 : wrap64 (Int.tdiv (n : Int) 60) = ((n / 60 : Nat) : Int) := by
    rw [show Int.tdiv (n : Int) 60 = ((n / 60 : Nat) : Int) from div_nat n 60]
    exact wrap_nat _ (by omega)
  simp only [caltok_Text.f, if_neg h1]
  have fin : ∀ (q : Nat) (c : UInt8), q ≤ 1073741824 → ((strconv_Itoa.f (q : Int)).bind fun t => (if t.size + 1 ≤ 9223372036854775807 then (some (t ++ (⟨#[c]⟩ : ByteArray))) else none)) = some (ofL (Lib.decDigits q ++ [c])) := fun q c hq => by
    have hl := dec_len_le q hq
    rw [itoa_nat q hq, Option.bind_some, if_pos (by rw [ofL_size]; omega), ofL_append]
    rfl
  refine ev_succ ?_
  have hz : decide ((n : Int) > 1073741824) = false := decide_eq_false h2
  simp only [caltok_Text.j0, hz, Bool.false_eq_true, if_false]
  have key : Ev (fun k => caltok_Text.j2 k (n : Int) (decide (0 < n ∧ n % 60 = 0))) (if 0 < n ∧ n % 60 = 0 then ofL (Lib.decDigits (n / 60) ++ [104]) else ofL (Lib.decDigits n ++ [109])) := by
    refine ev_succ ?_
    simp only [caltok_Text.j2, q2, fin n 109 hn, fin (n / 60) 104 (by omega)]
    by_cases h : 0 < n ∧ n % 60 = 0
    · simp only [h, decide_true, if_true, and_self]; exact ev_some
    · simp only [decide_eq_false h, Bool.false_eq_true, if_false, if_neg h]; exact ev_some
  have key1 : Ev (fun k => caltok_Text.j1 k (n : Int) (decide (0 < n ∧ n % 1440 = 0))) (ofL (textL n)) := by
    refine ev_succ ?_
    simp only [caltok_Text.j1, q1, fin (n / 1440) 100 (by omega)]
    unfold textL numOf unitOf
    by_cases h : 0 < n ∧ n % 1440 = 0
    · simp only [h, decide_true, if_true, and_self]; exact ev_some
    · simp only [decide_eq_false h, Bool.false_eq_true, if_false, if_neg h]
      have key' := key
      by_cases hp : 0 < n
      · have hp' : (n : Int) > 0 := by omega
        have e : (Int.tmod (n : Int) 60 == 0) = decide (0 < n ∧ n % 60 = 0) := by
          rw [m2, Bool.eq_iff_iff, beq_iff_eq, decide_eq_true_eq]
          omega
        simp only [if_pos hp', e]
        by_cases h6 : 0 < n ∧ n % 60 = 0
        · rw [if_pos h6] at key'
          simp only [if_pos h6]
          exact key'
        · rw [if_neg h6] at key'
          simp only [if_neg h6]
          exact key'
      · have hp' : ¬ (n : Int) > 0 := by omega
        have h6 : ¬ (0 < n ∧ n % 60 = 0) := by omega
        rw [if_neg h6, decide_eq_false h6] at key'
        simp only [if_neg hp', if_neg h6]
        exact key'
  by_cases hp : 0 < n
  · have hp' : (n : Int) > 0 := by omega
    have e : (Int.tmod (n : Int) 1440 == 0) = decide (0 < n ∧ n % 1440 = 0) := by
      rw [m1, Bool.eq_iff_iff, beq_iff_eq, decide_eq_true_eq]
      omega
    simp only [if_pos hp', e]
    exact key1
  · have hp' : ¬ (n : Int) > 0 := by omega
    have h6 : ¬ (0 < n ∧ n % 1440 = 0) := by omega
    rw [decide_eq_false h6] at key1
    simp only [if_neg hp']
    exact key1
theorem text_out (n : Int) (h : n < 0 ∨ n > 1073741824) : Ev (fun k => caltok_Text.f k n) (ofL []) := by
  simp only [caltok_Text.f]
  by_cases h1 : n < 0
  · simp only [if_pos h1]
    refine ev_succ ?_
    simp only [caltok_Text.j0, if_true]
    exact ev_some
  · have h2 : n > 1073741824 := by omega
    simp only [if_neg h1, decide_eq_true h2]
    refine ev_succ ?_
    simp only [caltok_Text.j0, if_true]
    exact ev_some
end Go.Proofs.YtonlbeonblpblaaDoor.Pl
