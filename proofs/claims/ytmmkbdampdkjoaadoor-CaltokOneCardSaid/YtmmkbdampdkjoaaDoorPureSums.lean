/-
  The law CaltokSums in plain Lean: it tells true of any two numbers.
-/
import Derived.Test.YtmmkbdampdkjoaaDoorPureBack
import Derived.Test.YtmmkbdampdkjoaaDoorAllx14
namespace Go.Proofs.YtmmkbdampdkjoaaDoor.Pl
open Go.RowKit Go.Proofs.YtmmkbdampdkjoaaDoor.All Go.Proofs.YtmmkbdampdkjoaaDoorW.PrintWords
set_option linter.unusedVariables false
set_option linter.unusedSimpArgs false

theorem u32_nat {a : Int} (h : (Lit.int .u32 a).wf = true) : 0 ≤ a ∧ a < 4294967296 := by
  simp [Lit.wf, IntKind.min, IntKind.max, IntKind.signed, IntKind.bits] at h
  omega
theorem last_byte (n : Nat) (hn : n ≤ 1073741824) : bt (ofL (textL n)) (((ofL (textL n)).size : Int) - 1) = ch (unitOf n) := by
  have hl := textL_len n
  have hs := ofL_size (textL n)
  have h := bt_lst (ofL (textL n)) ((textL n).length - 1)
  rw [lst_ofL] at h
  rw [show (((textL n).length - 1 : Nat) : Int) = ((ofL (textL n)).size : Int) - 1 by omega] at h
  rw [h]
  have := textL_last n
  rw [List.getLast?_eq_getElem?] at this
  rw [this]

theorem sums_pure (a b : Int) (ha : (Lit.int .u32 a).wf = true) (hb : (Lit.int .u32 b).wf = true) : Ev (fun k => erewhilelaw33_CaltokSums.f k a b) true := by
  have ha := u32_nat ha
  have hb := u32_nat hb
  obtain ⟨x, rfl⟩ : ∃ q : Nat, a = (q : Int) := ⟨a.toNat, by omega⟩
  obtain ⟨y, rfl⟩ : ∃ q : Nat, b = (q : Int) := ⟨b.toNat, by omega⟩
  have e1 : wrap64 (Int.tmod (x : Int) 536870912) = ((x % 536870912 : Nat) : Int) := by
    rw [show Int.tmod (x : Int) 536870912 = ((x % 536870912 : Nat) : Int) from mod_nat x 536870912]
    exact wrap_nat _ (by omega)
  have e2 : wrap64 (Int.tmod (y : Int) 536870912) = ((y % 536870912 : Nat) : Int) := by
    rw [show Int.tmod (y : Int) 536870912 = ((y % 536870912 : Nat) : Int) from mod_nat y 536870912]
    exact wrap_nat _ (by omega)
  simp only [erewhilelaw33_CaltokSums.f, e1, e2]
  generalize hn : x % 536870912 = n
  generalize hm : y % 536870912 = m
  have hn' : n < 536870912 := by omega
  have hm' : m < 536870912 := by omega
  have e3 : wrap64 ((n : Int) + (m : Int)) = ((n + m : Nat) : Int) := by
    rw [show (n : Int) + (m : Int) = ((n + m : Nat) : Int) by omega]
    exact wrap_nat _ (by omega)
  simp only [e3]
  refine Ev.bind awake_ev ?_
  simp only [if_true]
  refine Ev.bind (text_ev n (by omega)) ?_
  simp only [min_text n (by omega), Option.bind_some]
  refine Ev.bind (text_ev m (by omega)) ?_
  simp only [min_text m (by omega), Option.bind_some]
  refine Ev.bind (text_ev (n + m) (by omega)) ?_
  simp only [min_text (n + m) (by omega), Option.bind_some, if_true, e3]
  have e4 : (((n + m : Nat) : Int) != ((n + m : Nat) : Int)) = false := by simp
  simp only [e4]
  refine ev_succ ?_
  simp only [erewhilelaw33_CaltokSums.j0, Bool.false_eq_true, if_false]
  refine Ev.bind (text_ev n (by omega)) ?_
  have hl := textL_len n
  have hp := Lib.nDigits_pos (numOf n)
  have hle := textL_size n (by omega)
  have hs := ofL_size (textL n)
  have c1 : ¬ ((ofL (textL n)).size : Int) < 2 := by omega
  have e5 : wrap64 (((ofL (textL n)).size : Int) - 1) = ((ofL (textL n)).size : Int) - 1 := by
    unfold wrap64
    omega
  have c2 : (0 : Int) ≤ ((ofL (textL n)).size : Int) - 1 := by omega
  have c3 : ((ofL (textL n)).size : Int) - 1 < ((ofL (textL n)).size : Int) := by omega
  simp only [if_neg c1, e5, if_pos c2, if_pos c3, last_byte n (by omega)]
  have m1 : Int.tmod (n : Int) 1440 = ((n % 1440 : Nat) : Int) := mod_nat n 1440
  have m2 : Int.tmod (n : Int) 60 = ((n % 60 : Nat) : Int) := mod_nat n 60
  simp only [m1, m2]
  have u1 : ch 100 = 100 := by decide
  have u2 : ch 104 = 104 := by decide
  have u3 : ch 109 = 109 := by decide
  rcases unit_kinds n with ⟨e, h1, h2, _⟩ | ⟨e, h1, h2, h3, _⟩ | ⟨e, h1, _⟩
  · have h0 : (n : Int) > 0 := by omega
    have hz : ¬ (n : Int) = 0 := by omega
    have h6 : n % 60 = 0 := by omega
    simp only [e, u1, if_pos h0, h2, h6, if_neg hz]
    exact ev_some
  · have h0 : (n : Int) > 0 := by omega
    have hz : ¬ (n : Int) = 0 := by omega
    have h14 : ¬ ((n % 1440 : Nat) : Int) = 0 := by omega
    have h14' : (((n % 1440 : Nat) : Int) == 0) = false := beq_eq_false_iff_ne.2 h14
    simp only [e, u2, if_pos h0, h3, if_neg hz, if_neg h14, h14']
    exact ev_some
  · by_cases hz : n = 0
    · subst hz
      simp only [e, u3]
      exact ev_some
    · have h60 : n % 60 ≠ 0 := by omega
      have h0 : (n : Int) > 0 := by omega
      have hz' : ¬ (n : Int) = 0 := by omega
      have h14 : ¬ ((n % 1440 : Nat) : Int) = 0 := by omega
      have h14' : (((n % 1440 : Nat) : Int) == 0) = false := beq_eq_false_iff_ne.2 h14
      have h6 : ¬ ((n % 60 : Nat) : Int) = 0 := by omega
      have h6' : (((n % 60 : Nat) : Int) == 0) = false := beq_eq_false_iff_ne.2 h6
      have h6'' : (((n % 60 : Nat) : Int) != 0) = true := by rw [bne, h6']; rfl
      simp only [e, u3, if_pos h0, if_neg hz', if_neg h14, h14', h6', h6'']
      exact ev_some
end Go.Proofs.YtmmkbdampdkjoaaDoor.Pl
