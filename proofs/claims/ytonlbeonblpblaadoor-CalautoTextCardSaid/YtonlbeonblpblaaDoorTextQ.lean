/-
  calrule.Text in plain Lean: the lines of right rules, one behind the other. No condition but the number of rules.
-/
import Derived.Test.YtonlbeonblpblaaDoorTextP
import Derived.Test.YtonlbeonblpblaaDoorText
import Derived.Test.YtonlbeonblpblaaDoorPureSame
namespace Go.Proofs.YtonlbeonblpblaaDoor.Pl
open Go.RowKit Go.Proofs.YtonlbeonblpblaaDoor.All Go.Proofs.YtonlbeonblpblaaDoorW.PrintWords
set_option linter.unusedVariables false
set_option linter.unusedSimpArgs false

def textA (n : Int) : List UInt8 := if 0 ≤ n ∧ n ≤ 1073741824 then textL n.toNat else []
theorem textA_ev (n : Int) : Ev (fun k => caltok_Text.f k n) (ofL (textA n)) := by
  unfold textA
  by_cases h : 0 ≤ n ∧ n ≤ 1073741824
  · rw [if_pos h]
    have := text_ev n.toNat (by omega)
    rw [show ((n.toNat : Nat) : Int) = n by omega] at this
    exact this
  · rw [if_neg h]
    exact text_out n (by omega)
theorem textL_size (n : Nat) (hn : n ≤ 1073741824) : (textL n).length ≤ 11 := by
  unfold textL
  rw [List.length_append]
  have := dec_len_le (numOf n) (Nat.le_trans (numOf_le n) hn)
  simp
  omega
theorem textA_size (n : Int) : (textA n).length ≤ 11 := by
  unfold textA
  split
  · exact textL_size _ (by omega)
  · simp

/-! ### right rules -/
def spanB (n : Int) : Bool := decide (1 ≤ n ∧ n ≤ 1073741824)
def rightB (a b c : Int) : Bool := if a = 1 ∨ a = 4 then decide (b = 0) && spanB c else if a = 2 ∨ a = 3 then spanB b && spanB c else false
theorem span_f (n : Int) : calrule_span.f n = some (spanB n) := by
  unfold calrule_span.f spanB
  by_cases h : n ≥ 1
  · rw [if_pos h]
    congr 1
    rw [Bool.eq_iff_iff]
    simp only [decide_eq_true_eq]
    omega
  · rw [if_neg h]
    congr 1
    symm
    rw [decide_eq_false_iff_not]
    omega
theorem right_ev (a b c : Int) : Ev (fun k => calrule_Right.f k a b c) (rightB a b c) := by
  simp only [calrule_Right.f]
  have k0 : ∀ q : Bool, q = decide (a = 1 ∨ a = 4) → Ev (fun k => calrule_Right.j0 k a q a b c) (rightB a b c) := by
    rintro q rfl
    refine ev_succ ?_
    unfold rightB
    by_cases h1 : a = 1 ∨ a = 4
    · have e := decide_eq_true h1
      simp only [calrule_Right.j0, e, if_true, span_f, Option.bind_some, if_pos h1]
      by_cases h2 : b = 0
      · simp only [if_pos h2, decide_eq_true h2, Bool.true_and]; exact ev_some
      · simp only [if_neg h2, decide_eq_false h2, Bool.false_and]; exact ev_some
    · have e := decide_eq_false h1
      simp only [calrule_Right.j0, e, Bool.false_eq_true, if_false, if_neg h1]
      have k1 : ∀ q : Bool, q = decide (a = 2 ∨ a = 3) → Ev (fun k => calrule_Right.j1 k q a b c) (if a = 2 ∨ a = 3 then spanB b && spanB c else false) := by
        rintro q rfl
        refine ev_succ ?_
        by_cases h2 : a = 2 ∨ a = 3
        · have e := decide_eq_true h2
          simp only [calrule_Right.j1, e, if_true, span_f, Option.bind_some, if_pos h2]
          cases hb : spanB b with
          | true => simp only [if_true, Bool.true_and]; exact ev_some
          | false => simp only [Bool.false_eq_true, if_false, Bool.false_and]; exact ev_some
        · have e := decide_eq_false h2
          simp only [calrule_Right.j1, e, Bool.false_eq_true, if_false, if_neg h2]
          exact ev_some
      by_cases h2 : a = 2
      · simp only [if_pos h2]
        exact k1 _ (by rw [h2]; rfl)
      · simp only [if_neg h2]
        refine k1 _ ?_
        rw [Bool.eq_iff_iff]
        simp [h2]
  by_cases h1 : a = 1
  · simp only [if_pos h1]
    exact k0 _ (by rw [h1]; rfl)
  · simp only [if_neg h1]
    refine k0 _ ?_
    rw [Bool.eq_iff_iff]
    simp [h1]
theorem right_kind {r : S46} (h : rightB r.f0 r.f1 r.f2 = true) : isKind r.f0 = true := by
  unfold rightB at h
  unfold isKind
  simp only [Bool.or_eq_true, beq_iff_eq]
  split at h
  · omega
  · split at h
    · omega
    · cases h

/-! ### a rule's line -/
def wordT (r : S46) (w : ByteArray) : List UInt8 := if w.toList = [35] then textA r.f1 else if w.toList = [33] then textA r.f2 else lst w
def wordsT (r : S46) : List ByteArray → Bool → List UInt8
  | [], _ => []
  | w :: ws, first => (if first = true then [] else [32]) ++ wordT r w ++ wordsT r ws false
def lineT (r : S46) : List UInt8 := wordsT r (wordL r.f0) true ++ [10]
theorem word_len (k : Int) : ∀ w ∈ wordL k, w.size ≤ 5 := by
  unfold wordL
  intro w hw
  split at hw
  · simp only [List.mem_cons, List.not_mem_nil, or_false] at hw
    rcases hw with rfl | rfl | rfl | rfl <;> decide
  · split at hw
    · simp only [List.mem_cons, List.not_mem_nil, or_false] at hw
      rcases hw with rfl | rfl | rfl | rfl <;> decide
    · split at hw
      · simp only [List.mem_cons, List.not_mem_nil, or_false] at hw
        rcases hw with rfl | rfl | rfl | rfl <;> decide
      · split at hw
        · simp only [List.mem_cons, List.not_mem_nil, or_false] at hw
          rcases hw with rfl | rfl | rfl <;> decide
        · cases hw
theorem wordT_len (r : S46) {k : Int} {w : ByteArray} (h : w ∈ wordL k) : (wordT r w).length ≤ 11 := by
  unfold wordT
  split
  · exact textA_size _
  · split
    · exact textA_size _
    · rw [lst_len]
      have := word_len k w h
      omega
theorem wordF_ev (r : S46) (w : ByteArray) : Ev (fun k => wordF k r.f1 r.f2 w) (ofL (wordT r w)) := by
  unfold wordF wordT
  by_cases h1 : w.toList = [35]
  · simp only [if_pos h1]; exact textA_ev _
  · by_cases h2 : w.toList = [33]
    · simp only [if_neg h1, if_pos h2]; exact textA_ev _
    · simp only [if_neg h1, if_neg h2, ofL_lst]; exact ev_some
theorem addB_ok (acc s : List UInt8) (h : acc.length + s.length ≤ 1000000) : addB acc s = some (acc ++ s) := by
  unfold addB
  rw [if_pos (by omega)]
theorem wordsF_ev (r : S46) {k : Int} : ∀ (ws : List ByteArray) (first : Bool) (acc : List UInt8), (∀ w ∈ ws, w ∈ wordL k) → acc.length + 12 * ws.length ≤ 10000 →
    Ev (fun q => wordsF q r.f1 r.f2 ws first acc) (acc ++ wordsT r ws first) ∧ (wordsT r ws first).length ≤ 12 * ws.length
  | [], first, acc, _, _ => ⟨by simp only [wordsF, wordsT, List.append_nil]; exact ev_some, by simp [wordsT]⟩
  | w :: ws, first, acc, hw, hl => by
    have hwl := wordT_len r (hw w (.head _))
    simp only [List.length_cons] at hl
    simp only [wordsF, wordsT]
    cases first with
    | true =>
      have ih := wordsF_ev r ws false (acc ++ wordT r w) (fun x hx => hw x (.tail _ hx)) (by rw [List.length_append]; omega)
      refine ⟨?_, ?_⟩
      · simp only [if_true, Option.bind_some]
        refine Ev.bind (wordF_ev r w) ?_
        have ha := addB_ok acc (ofL (wordT r w)).data.toList (by rw [show (ofL (wordT r w)).data.toList = wordT r w from lst_ofL _]; omega)
        rw [show (ofL (wordT r w)).data.toList = wordT r w from lst_ofL _] at ha ⊢
        simp only [ha, Option.bind_some, List.nil_append]
        rw [← List.append_assoc]
        exact ih.1
      · simp only [if_true, List.nil_append, List.length_append, List.length_cons]
        have := ih.2
        omega
    | false =>
      have ih := wordsF_ev r ws false ((acc ++ [32]) ++ wordT r w) (fun x hx => hw x (.tail _ hx)) (by simp only [List.length_append, List.length_singleton]; omega)
      refine ⟨?_, ?_⟩
      · have hb := addB_ok acc [32] (by simp; omega)
        simp only [Bool.false_eq_true, if_false, hb, Option.bind_some]
        refine Ev.bind (wordF_ev r w) ?_
        have ha := addB_ok (acc ++ [32]) (ofL (wordT r w)).data.toList (by rw [show (ofL (wordT r w)).data.toList = wordT r w from lst_ofL _]; simp; omega)
        rw [show (ofL (wordT r w)).data.toList = wordT r w from lst_ofL _] at ha ⊢
        simp only [ha, Option.bind_some]
        have e : acc ++ ([32] ++ wordT r w ++ wordsT r ws false) = acc ++ [32] ++ wordT r w ++ wordsT r ws false := by simp
        rw [e]
        exact ih.1
      · simp only [Bool.false_eq_true, if_false, List.length_append, List.length_cons, List.length_nil]
        have := ih.2
        omega
theorem lineT_len (r : S46) : (lineT r).length ≤ 49 := by
  unfold lineT
  have h := (wordsF_ev r (k := r.f0) (wordL r.f0) true [] (fun w hw => hw) (by have := len_le r.f0; simp; omega)).2
  have := len_le r.f0
  rw [List.length_append]
  simp
  omega
/-- The text of rules, or why there is none. -/
def textS (l : List S46) : ByteArray × Int := if l.length > 16 then (ofL [], 6) else if (l.all fun r => rightB r.f0 r.f1 r.f2) = true then (ofL (l.flatMap lineT), 0) else (ofL [], 3)
theorem linesF_ev : ∀ (l : List S46) (acc : List UInt8), acc.length + 49 * l.length ≤ 5000 → Ev (fun k => linesF k l acc) (if (l.all fun r => rightB r.f0 r.f1 r.f2) = true then (ofL (acc ++ l.flatMap lineT), 0) else (ofL [], 3))
  | [], acc, _ => by
    simp only [linesF, List.all_nil, if_true, List.flatMap_nil, List.append_nil]
    exact ev_some
  | r :: l, acc, hl => by
    simp only [List.length_cons] at hl
    simp only [linesF]
    refine Ev.bind (right_ev r.f0 r.f1 r.f2) ?_
    cases hr : rightB r.f0 r.f1 r.f2 with
    | false =>
      simp only [List.all_cons, hr, Bool.false_and, Bool.false_eq_true, if_false]
      exact ev_some
    | true =>
      have hk := right_kind hr
      have hll := lineT_len r
      have h4 := len_le r.f0
      simp only [List.all_cons, hr, Bool.true_and, if_true, hk]
      refine Ev.bind (wordsF_ev r (k := r.f0) (wordL r.f0) true acc (fun w hw => hw) (by omega)).1 ?_
      have hw := (wordsF_ev r (k := r.f0) (wordL r.f0) true acc (fun w hw => hw) (by omega)).2
      have ha := addB_ok (acc ++ wordsT r (wordL r.f0) true) [10] (by rw [List.length_append]; simp; omega)
      simp only [ha, Option.bind_some]
      have ih := linesF_ev l (acc ++ lineT r) (by rw [List.length_append]; omega)
      have e : acc ++ wordsT r (wordL r.f0) true ++ [10] = acc ++ lineT r := by unfold lineT; simp
      rw [e, List.flatMap_cons, ← List.append_assoc]
      exact ih
theorem texts_ev (l : List S46) : Ev (fun k => calrule_Text.f k l) (textS l) := by
  simp only [calrule_Text.f]
  unfold textS
  by_cases h : l.length > 16
  · simp only [if_pos h, if_pos (show (l.length : Int) > 16 by omega)]
    exact ev_some
  · simp only [if_neg h, if_neg (show ¬ (l.length : Int) > 16 by omega)]
    have := linesF_ev l [] (by simp; omega)
    simp only [List.nil_append] at this
    exact this
end Go.Proofs.YtonlbeonblpblaaDoor.Pl
