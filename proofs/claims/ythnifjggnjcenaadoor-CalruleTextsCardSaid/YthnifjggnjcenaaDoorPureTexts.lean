/-
  The law CalruleTexts in plain Lean: the document's text of rules is the program's, and its word on a rule too. No condition.
-/
import Derived.Test.YthnifjggnjcenaaDoorTextQ
import Derived.Test.YthnifjggnjcenaaDoorAllx27
namespace Go.Proofs.YthnifjggnjcenaaDoor.Pl
open Go.RowKit Go.Proofs.YthnifjggnjcenaaDoor.All Go.Proofs.YthnifjggnjcenaaDoorW.PrintWords
set_option linter.unusedVariables false
set_option linter.unusedSimpArgs false

/-! ### the document's numbers -/
theorem dig_cut : ∀ q : Nat, q < 10 → (⟨#[48, 49, 50, 51, 52, 53, 54, 55, 56, 57]⟩ : ByteArray).extract q (q + 1) = ofL [UInt8.ofNat (48 + q)]
  | 0, _ => rfl
  | 1, _ => rfl
  | 2, _ => rfl
  | 3, _ => rfl
  | 4, _ => rfl
  | 5, _ => rfl
  | 6, _ => rfl
  | 7, _ => rfl
  | 8, _ => rfl
  | 9, _ => rfl
  | q + 10, h => by omega
theorem num_small (q : Nat) (h : q < 10) : Ev (fun k => erewhileref33_num.f k (q : Int)) (ofL (Lib.decDigits q)) := by
  have w : wrap64 ((q : Int) + 1) = ((q + 1 : Nat) : Int) := wrap_succ q (by omega)
  have c1 : (q : Int) < 10 := by omega
  have c2 : (0 : Int) ≤ (q : Int) := by omega
  have c3 : (q : Int) ≤ ((q + 1 : Nat) : Int) := by omega
  have c4 : ((q + 1 : Nat) : Int) ≤ 10 := by omega
  refine ev_succ ?_
  simp only [erewhileref33_num.f, w, if_pos c1, if_pos c2, if_pos c3, if_pos c4, Int.toNat_natCast, dig_cut q h, dec_small h]
  exact ev_some
theorem num_ev : ∀ q : Nat, q ≤ 1073741824 → Ev (fun k => erewhileref33_num.f k (q : Int)) (ofL (Lib.decDigits q)) := by
  intro q
  induction q using Nat.strongRecOn with
  | ind q ih =>
    intro hq
    by_cases h : q < 10
    · exact num_small q h
    · have c1 : ¬ (q : Int) < 10 := by omega
      have d1 : wrap64 (Int.tdiv (q : Int) 10) = ((q / 10 : Nat) : Int) := by
        rw [show Int.tdiv (q : Int) 10 = ((q / 10 : Nat) : Int) from div_nat q 10]
        exact wrap_nat _ (by omega)
      have d2 : Int.tmod (q : Int) 10 = ((q % 10 : Nat) : Int) := mod_nat q 10
      have i1 := ih (q / 10) (by omega) (by omega)
      have i2 := num_small (q % 10) (by omega)
      refine ev_succ ?_
      simp only [erewhileref33_num.f, if_neg c1, d1, d2]
      refine Ev.bind i1 ?_
      refine Ev.bind i2 ?_
      have l1 := dec_len_le (q / 10) (by omega)
      have l2 := dec_len_le (q % 10) (by omega)
      have e : Lib.decDigits q = Lib.decDigits (q / 10) ++ Lib.decDigits (q % 10) := by rw [dec_big h, dec_small (show q % 10 < 10 by omega)]
      simp only [if_pos (show (ofL (Lib.decDigits (q / 10))).size + (ofL (Lib.decDigits (q % 10))).size ≤ 9223372036854775807 by rw [ofL_size, ofL_size]; omega), ← ofL_append, ← e]
      exact ev_some
theorem rnum_ev (n : Nat) (hn : n ≤ 1073741824) : Ev (fun k => erewhileref33_Text.f k (n : Int)) (ofL (textL n)) := by
  have h1 : ¬ (n : Int) < 0 := by omega
  have h2 : ¬ (n : Int) > 1073741824 := by omega
  have m1 : Int.tmod (n : Int) 1440 = ((n % 1440 : Nat) : Int) := mod_nat n 1440
  have m2 : Int.tmod (n : Int) 60 = ((n % 60 : Nat) : Int) := mod_nat n 60
  have q1 : wrap64 (Int.tdiv (n : Int) 1440) = ((n / 1440 : Nat) : Int) := by
    rw [show Int.tdiv (n : Int) 1440 = ((n / 1440 : Nat) : Int) from div_nat n 1440]
    exact wrap_nat _ (by omega)
  have q2 : wrap64 (Int.tdiv (n : Int) 60) = ((n / 60 : Nat) : Int) := by
    rw [show Int.tdiv (n : Int) 60 = ((n / 60 : Nat) : Int) from div_nat n 60]
    exact wrap_nat _ (by omega)
  simp only [erewhileref33_Text.f, if_neg h1]
  have fin : ∀ (q : Nat) (c : UInt8), q ≤ 1073741824 → Ev (fun k => (erewhileref33_num.f k (q : Int)).bind fun t => (if t.size + 1 ≤ 9223372036854775807 then (some (t ++ (⟨#[c]⟩ : ByteArray))) else none)) (ofL (Lib.decDigits q ++ [c])) := fun q c hq => by
    have hl := dec_len_le q hq
    refine Ev.bind (num_ev q hq) ?_
    rw [if_pos (by rw [ofL_size]; omega), ofL_append]
    exact ev_some
  refine ev_succ ?_
  have hz : decide ((n : Int) > 1073741824) = false := decide_eq_false h2
  simp only [erewhileref33_Text.j0, hz, Bool.false_eq_true, if_false]
  have key : Ev (fun k => erewhileref33_Text.j2 k (n : Int) (decide (0 < n ∧ n % 60 = 0))) (if 0 < n ∧ n % 60 = 0 then ofL (Lib.decDigits (n / 60) ++ [104]) else ofL (Lib.decDigits n ++ [109])) := by
    refine ev_succ ?_
    simp only [erewhileref33_Text.j2, q2]
    by_cases h : 0 < n ∧ n % 60 = 0
    · simp only [h, decide_true, if_true, and_self]; exact fin (n / 60) 104 (by omega)
    · simp only [decide_eq_false h, Bool.false_eq_true, if_false, if_neg h]; exact fin n 109 hn
  have key1 : Ev (fun k => erewhileref33_Text.j1 k (n : Int) (decide (0 < n ∧ n % 1440 = 0))) (ofL (textL n)) := by
    refine ev_succ ?_
    simp only [erewhileref33_Text.j1, q1]
    unfold textL numOf unitOf
    by_cases h : 0 < n ∧ n % 1440 = 0
    · simp only [h, decide_true, if_true, and_self]; exact fin (n / 1440) 100 (by omega)
    · simp only [decide_eq_false h, Bool.false_eq_true, if_false, if_neg h]
      have key' := key
      by_cases hp : 0 < n
      · have hp' : (n : Int) > 0 := by omega
        have e : (Int.tmod (n : Int) 60 == 0) = decide (0 < n ∧ n % 60 = 0) := by
          rw [m2, Bool.eq_iff_iff, beq_iff_eq, decide_eq_true_eq]
          omega
        simp only [if_pos hp', e]
        by_cases h6 : 0 < n ∧ n % 60 = 0
        · rw [if_pos h6] at key' ⊢
          rw [if_pos h6]
          exact key'
        · rw [if_neg h6] at key' ⊢
          rw [if_neg h6]
          exact key'
      · have hp' : ¬ (n : Int) > 0 := by omega
        have e : decide (0 < n ∧ n % 60 = 0) = false := decide_eq_false (by omega)
        rw [e, if_neg (by omega)] at key'
        simp only [if_neg hp']
        rw [if_neg (by omega), if_neg (by omega)]
        exact key'
  by_cases hp : 0 < n
  · have hp' : (n : Int) > 0 := by omega
    have e : (Int.tmod (n : Int) 1440 == 0) = decide (0 < n ∧ n % 1440 = 0) := by
      rw [m1, Bool.eq_iff_iff, beq_iff_eq, decide_eq_true_eq]
      omega
    simp only [if_pos hp', e]
    exact key1
  · have hp' : ¬ (n : Int) > 0 := by omega
    have e : decide (0 < n ∧ n % 1440 = 0) = false := decide_eq_false (by omega)
    rw [e] at key1
    simp only [if_neg hp']
    exact key1
theorem rtextA_ev (n : Int) : Ev (fun k => erewhileref33_Text.f k n) (ofL (textA n)) := by
  unfold textA
  by_cases h : 0 ≤ n ∧ n ≤ 1073741824
  · rw [if_pos h]
    have := rnum_ev n.toNat (by omega)
    rw [show ((n.toNat : Nat) : Int) = n by omega] at this
    exact this
  · rw [if_neg h]
    simp only [erewhileref33_Text.f]
    by_cases h1 : n < 0
    · simp only [if_pos h1]
      refine ev_succ ?_
      simp only [erewhileref33_Text.j0, if_true]
      exact ev_some
    · have h2 : n > 1073741824 := by omega
      simp only [if_neg h1, decide_eq_true h2]
      refine ev_succ ?_
      simp only [erewhileref33_Text.j0, if_true]
      exact ev_some

/-! ### right rules -/
theorem rright_ev (a b c : Int) : Ev (fun k => erewhileref34_Right.f k a b c) (rightB a b c) := by
  have k0 : ∀ q : Bool, q = decide (¬ (1 ≤ c ∧ c ≤ 1073741824)) → Ev (fun k => erewhileref34_Right.j0 k q a b c) (rightB a b c) := by
    rintro q rfl
    refine ev_succ ?_
    unfold rightB spanB
    by_cases hc : 1 ≤ c ∧ c ≤ 1073741824
    · have e : decide (¬ (1 ≤ c ∧ c ≤ 1073741824)) = false := decide_eq_false (fun h => h hc)
      simp only [erewhileref34_Right.j0, e, Bool.false_eq_true, if_false, decide_eq_true hc, Bool.and_true]
      have hb0 : (b == 0) = decide (b = 0) := by rw [Bool.eq_iff_iff]; simp
      have hb1 : (if b ≥ 1 then some (decide (b ≤ 1073741824)) else some false) = some (decide (1 ≤ b ∧ b ≤ 1073741824)) := by
        by_cases h : b ≥ 1
        · rw [if_pos h]
          congr 1
          rw [Bool.eq_iff_iff]
          simp only [decide_eq_true_eq]
          omega
        · rw [if_neg h]
          congr 1
          symm
          rw [decide_eq_false_iff_not]
          omega
      simp only [hb0, hb1]
      by_cases h1 : a = 1
      · simp only [h1, true_or, if_true]; exact ev_some
      · by_cases h4 : a = 4
        · simp only [h4, or_true, if_true]; exact ev_some
        · rw [if_neg (show ¬ (a = 1 ∨ a = 4) by omega)]
          simp only [if_neg h1, if_neg h4]
          by_cases h2 : a = 2
          · simp only [h2, true_or, if_true]; exact ev_some
          · by_cases h3 : a = 3
            · simp only [h3, or_true, if_true]; exact ev_some
            · rw [if_neg (show ¬ (a = 2 ∨ a = 3) by omega)]
              simp only [if_neg h2, if_neg h3]
              exact ev_some
    · have e : decide (¬ (1 ≤ c ∧ c ≤ 1073741824)) = true := decide_eq_true hc
      simp only [erewhileref34_Right.j0, e, if_true, decide_eq_false hc, Bool.and_false]
      split
      · exact ev_some
      · split <;> exact ev_some
  simp only [erewhileref34_Right.f]
  by_cases h : c < 1
  · simp only [if_pos h]
    exact k0 _ (decide_eq_true (by omega)).symm
  · simp only [if_neg h]
    refine k0 _ ?_
    rw [Bool.eq_iff_iff]
    simp only [decide_eq_true_eq]
    omega

/-! ### the document's line -/
def rformL (k : Int) : List ByteArray := if k = 1 then [⟨#[101, 97, 99, 104]⟩, ⟨#[119, 114, 105, 116, 101]⟩, ⟨#[102, 111, 114]⟩, ⟨#[84]⟩] else if k = 2 then [⟨#[101, 97, 99, 104]⟩, ⟨#[84]⟩, ⟨#[102, 111, 114]⟩, ⟨#[84]⟩] else if k = 3 then [⟨#[113, 117, 105, 101, 116]⟩, ⟨#[84]⟩, ⟨#[102, 111, 114]⟩, ⟨#[84]⟩] else [⟨#[110, 101, 118, 101, 114]⟩, ⟨#[97, 102, 116, 101, 114]⟩, ⟨#[84]⟩]
theorem rform_f (k : Int) : erewhileref34_Form.f k = some (rformL k) := by
  unfold erewhileref34_Form.f rformL
  split
  · rfl
  · split
    · rfl
    · split <;> rfl
theorem rdW_at (l : List ByteArray) (j : Nat) (h : j < l.length) : rdOf ByteArray.empty l (j : Int) = l[j] := by
  show l.getD (j : Int).toNat ByteArray.empty = l[j]
  rw [Int.toNat_natCast, List.getD_eq_getElem?_getD, List.getElem?_eq_getElem h]
  rfl
/-- What the document writes for its word: the last T is the second time. -/
def rwordT (b c : Int) (w : ByteArray) (last : Bool) : List UInt8 := if w.data.toList = [84] then if last = true then textA c else textA b else lst w
def rwordsT (b c : Int) : List ByteArray → Bool → List UInt8
  | [], _ => []
  | w :: ws, first => (if first = true then [] else [32]) ++ rwordT b c w ws.isEmpty ++ rwordsT b c ws false
theorem rwordT_len (b c : Int) (w : ByteArray) (q : Bool) (hw : w.size ≤ 5) : (rwordT b c w q).length ≤ 11 := by
  unfold rwordT
  split
  · split <;> exact textA_size _
  · rw [lst_len]; omega
theorem rline_loop (F : List ByteArray) (hF : F.length ≤ 4) (h5 : ∀ w ∈ F, w.size ≤ 5) (a b c : Int) : ∀ (ws : List ByteArray) (j : Nat) (acc : List UInt8), F.drop j = ws → j ≤ F.length → acc.length ≤ 12 * j →
    Ev (fun k => erewhileref34_Line.l0 k F (ofL acc) (j : Int) a b c) (ofL (acc ++ rwordsT b c ws (decide (j = 0)) ++ [10]))
  | [], j, acc, hd, hj, ha => by
    have hle := List.drop_eq_nil_iff.1 hd
    obtain rfl : j = F.length := by omega
    refine ev_succ ?_
    have h1 : ¬ (F.length : Int) < (F.length : Int) := by omega
    have h2 : (ofL acc).size + 1 ≤ 9223372036854775807 := by rw [ofL_size]; omega
    simp only [erewhileref34_Line.l0, if_neg h1, if_pos h2, rwordsT, List.append_nil, ofL_append]
    exact ev_some
  | w :: ws, j, acc, hd, hj, ha => by
    have hlt : j < F.length := by
      refine Nat.lt_of_not_le fun h => ?_
      rw [List.drop_eq_nil_of_le h] at hd
      cases hd
    have hlen : ws.length + j + 1 = F.length := by
      have := congrArg List.length hd
      simp only [List.length_drop, List.length_cons] at this
      omega
    rw [List.drop_eq_getElem_cons hlt, List.cons.injEq] at hd
    have hw5 : w.size ≤ 5 := h5 w (by rw [← hd.1]; exact List.getElem_mem hlt)
    have c1 : (j : Int) < (F.length : Int) := by omega
    have c0 : (0 : Int) ≤ (j : Int) := by omega
    have w1 : wrap64 ((F.length : Int) - 1) = ((F.length - 1 : Nat) : Int) := by
      rw [show (F.length : Int) - 1 = ((F.length - 1 : Nat) : Int) by omega]
      exact wrap_nat _ (by omega)
    have wj : wrap64 ((j : Int) + 1) = ((j + 1 : Nat) : Int) := wrap_succ j (by omega)
    have hjl : ((j : Int) == ((F.length - 1 : Nat) : Int)) = ws.isEmpty := by
      rw [Bool.eq_iff_iff, beq_iff_eq, List.isEmpty_iff_length_eq_zero]
      omega
    -- the piece is glued on
    have glue : ∀ s : List UInt8, s.length ≤ 11 → rwordT b c w ws.isEmpty = s →
        Ev (fun k => if (j : Int) > 0 then (if (ofL acc).size + 1 ≤ 9223372036854775807 then (if (ofL acc ++ (⟨#[32]⟩ : ByteArray)).size + (ofL s).size ≤ 9223372036854775807 then (erewhileref34_Line.l0 k F ((ofL acc ++ (⟨#[32]⟩ : ByteArray)) ++ ofL s) (wrap64 ((j : Int) + 1)) a b c) else (none)) else (none)) else (if (ofL acc).size + (ofL s).size ≤ 9223372036854775807 then (erewhileref34_Line.l0 k F (ofL acc ++ ofL s) (wrap64 ((j : Int) + 1)) a b c) else (none)))
          (ofL (acc ++ rwordsT b c (w :: ws) (decide (j = 0)) ++ [10])) := by
      intro s hs e
      rw [rwordsT, e, wj]
      by_cases h0 : j = 0
      · have g0 : ¬ (j : Int) > 0 := by omega
        have g1 : (ofL acc).size + (ofL s).size ≤ 9223372036854775807 := by rw [ofL_size, ofL_size]; omega
        simp only [if_neg g0, if_pos g1, ← ofL_append]
        have ih := rline_loop F hF h5 a b c ws (j + 1) (acc ++ s) hd.2 (by omega) (by rw [List.length_append]; omega)
        rw [decide_eq_true h0, if_pos rfl, List.nil_append, ← List.append_assoc]
        rw [decide_eq_false (by omega)] at ih
        exact ih
      · have g0 : (j : Int) > 0 := by omega
        have e32 : (⟨#[32]⟩ : ByteArray) = ofL [32] := rfl
        have g1 : (ofL acc).size + 1 ≤ 9223372036854775807 := by rw [ofL_size]; omega
        have g2 : (ofL (acc ++ [32])).size + (ofL s).size ≤ 9223372036854775807 := by rw [ofL_size, ofL_size]; simp; omega
        simp only [if_pos g0, if_pos g1, e32, ← ofL_append, if_pos g2]
        have ih := rline_loop F hF h5 a b c ws (j + 1) (acc ++ [32] ++ s) hd.2 (by omega) (by simp; omega)
        rw [decide_eq_false h0, if_neg (by decide)]
        rw [decide_eq_false (by omega)] at ih
        rw [show acc ++ ([32] ++ s ++ rwordsT b c ws false) ++ [10] = acc ++ [32] ++ s ++ rwordsT b c ws false ++ [10] by simp]
        exact ih
    refine ev_succ ?_
    simp only [erewhileref34_Line.l0, if_pos c1, if_pos c0, rdW_at F j hlt, hd.1, w1, hjl, tl]
    have hlenT := rwordT_len b c w ws.isEmpty hw5
    by_cases h84 : w.data.toList = [84]
    · simp only [if_pos h84]
      refine ev_succ ?_
      cases hq : ws.isEmpty with
      | true =>
        simp only [erewhileref34_Line.j1, if_true]
        refine Ev.bind (rtextA_ev c) ?_
        exact glue (textA c) (textA_size _) (by rw [rwordT, if_pos h84, if_pos hq])
      | false =>
        simp only [erewhileref34_Line.j1, Bool.false_eq_true, if_false, tl, if_pos h84]
        refine Ev.bind (rtextA_ev b) ?_
        exact glue (textA b) (textA_size _) (by rw [rwordT, if_pos h84, if_neg (by rw [hq]; decide)])
    · simp only [if_neg h84]
      refine ev_succ ?_
      simp only [erewhileref34_Line.j1, Bool.false_eq_true, if_false, tl, if_neg h84]
      have g := glue (lst w) (by rw [lst_len]; omega) (by rw [rwordT, if_neg h84])
      rw [ofL_lst] at g
      exact g
theorem rline_ev (r : S33) (hk : r.f0 = 1 ∨ r.f0 = 2 ∨ r.f0 = 3 ∨ r.f0 = 4) : Ev (fun k => erewhileref34_Line.f k r.f0 r.f1 r.f2) (ofL (lineT r)) := by
  obtain ⟨a, b, c⟩ := r
  simp only [erewhileref34_Line.f, rform_f, Option.bind_some] at hk ⊢
  have h4 : (rformL a).length ≤ 4 := by rcases hk with rfl | rfl | rfl | rfl <;> decide
  have h5 : ∀ w ∈ rformL a, w.size ≤ 5 := by rcases hk with rfl | rfl | rfl | rfl <;> decide
  have h := rline_loop (rformL a) h4 h5 a b c (rformL a) 0 [] rfl (by omega) (by simp)
  have e : [] ++ rwordsT b c (rformL a) (decide (0 = 0)) ++ [10] = lineT ⟨a, b, c⟩ := by
    unfold lineT
    congr 1
    simp only [decide_true, List.nil_append]
    have x35 : wH.toList = [35] := by rw [tl]; rfl
    have x33 : wX.toList = [33] := by rw [tl]; rfl
    have y33 : ¬ wX.toList = [35] := by rw [tl]; decide
    have n1 : ¬ wE.toList = [35] ∧ ¬ wE.toList = [33] := by rw [tl]; decide
    have n2 : ¬ wW.toList = [35] ∧ ¬ wW.toList = [33] := by rw [tl]; decide
    have n3 : ¬ wF.toList = [35] ∧ ¬ wF.toList = [33] := by rw [tl]; decide
    have n4 : ¬ wQ.toList = [35] ∧ ¬ wQ.toList = [33] := by rw [tl]; decide
    have n5 : ¬ wN.toList = [35] ∧ ¬ wN.toList = [33] := by rw [tl]; decide
    have n6 : ¬ wA.toList = [35] ∧ ¬ wA.toList = [33] := by rw [tl]; decide
    rcases hk with rfl | rfl | rfl | rfl
    · show rwordsT b c _ true = wordsT ⟨1, b, c⟩ [wE, wW, wF, wX] true
      simp only [wordsT, wordT, n1, n2, n3, x33, y33, if_true, if_false, and_self]
      rfl
    · show rwordsT b c _ true = wordsT ⟨2, b, c⟩ [wE, wH, wF, wX] true
      simp only [wordsT, wordT, n1, n3, x33, x35, y33, if_true, if_false, and_self]
      rfl
    · show rwordsT b c _ true = wordsT ⟨3, b, c⟩ [wQ, wH, wF, wX] true
      simp only [wordsT, wordT, n4, n3, x33, x35, y33, if_true, if_false, and_self]
      rfl
    · show rwordsT b c _ true = wordsT ⟨4, b, c⟩ [wN, wA, wX] true
      simp only [wordsT, wordT, n5, n6, x33, y33, if_true, if_false, and_self]
      rfl
  rw [e] at h
  exact h

/-! ### the document's text -/
theorem right_kinds {r : S33} (h : rightB r.f0 r.f1 r.f2 = true) : r.f0 = 1 ∨ r.f0 = 2 ∨ r.f0 = 3 ∨ r.f0 = 4 := by
  unfold rightB at h
  split at h
  · omega
  · split at h
    · omega
    · cases h
theorem rtext_loop (l : List S33) (hl : l.length ≤ 16) : ∀ (ds : List S33) (j : Nat) (acc : List UInt8), l.drop j = ds → j ≤ l.length → acc.length ≤ 49 * j →
    Ev (fun k => erewhileref34_Text.l0 k l (ofL acc) (j : Int)) (if (ds.all fun r => rightB r.f0 r.f1 r.f2) = true then (ofL (acc ++ ds.flatMap lineT), 0) else (ofL [], 3))
  | [], j, acc, hd, hj, ha => by
    have hle := List.drop_eq_nil_iff.1 hd
    obtain rfl : j = l.length := by omega
    refine ev_succ ?_
    have h1 : ¬ (l.length : Int) < (l.length : Int) := by omega
    simp only [erewhileref34_Text.l0, if_neg h1, List.all_nil, if_true, List.flatMap_nil, List.append_nil]
    exact ev_some
  | r :: ds, j, acc, hd, hj, ha => by
    have hlt : j < l.length := by
      refine Nat.lt_of_not_le fun h => ?_
      rw [List.drop_eq_nil_of_le h] at hd
      cases hd
    rw [List.drop_eq_getElem_cons hlt, List.cons.injEq] at hd
    have c1 : (j : Int) < (l.length : Int) := by omega
    have c0 : (0 : Int) ≤ (j : Int) := by omega
    have er : rd_T33 l (j : Int) = r := (rd33_is l j hlt).trans hd.1
    refine ev_succ ?_
    simp only [erewhileref34_Text.l0, if_pos c1, if_pos c0, er]
    refine Ev.bind (rright_ev r.f0 r.f1 r.f2) ?_
    cases hr : rightB r.f0 r.f1 r.f2 with
    | false =>
      simp only [List.all_cons, hr, Bool.false_and, Bool.false_eq_true, if_false]
      exact ev_some
    | true =>
      simp only [List.all_cons, hr, Bool.true_and, if_true]
      refine Ev.bind (rline_ev r (right_kinds hr)) ?_
      have hll := lineT_len r
      have g1 : (ofL acc).size + (ofL (lineT r)).size ≤ 9223372036854775807 := by rw [ofL_size, ofL_size]; omega
      simp only [if_pos g1, ← ofL_append, wrap_succ j (by omega)]
      have ih := rtext_loop l hl ds (j + 1) (acc ++ lineT r) hd.2 (by omega) (by rw [List.length_append]; omega)
      rw [List.flatMap_cons, ← List.append_assoc]
      exact ih
theorem rtext_ev (l : List S33) : Ev (fun k => erewhileref34_Text.f k l) (textS l) := by
  simp only [erewhileref34_Text.f]
  unfold textS
  by_cases h : l.length > 16
  · simp only [if_pos h, if_pos (show (l.length : Int) > 16 by omega)]
    exact ev_some
  · simp only [if_neg h, if_neg (show ¬ (l.length : Int) > 16 by omega)]
    have := rtext_loop l (by omega) l 0 [] rfl (by omega) (by simp)
    simp only [List.nil_append] at this
    exact this
theorem texts_pure (l : List S33) (a b c : Int) : Ev (fun k => erewhilelaw34_CalruleTexts.f k l a b c) true := by
  simp only [erewhilelaw34_CalruleTexts.f]
  refine Ev.bind awake_ev ?_
  simp only [if_true]
  refine ev_succ ?_
  cases hq : decide ((l.length : Int) > 40) with
  | true =>
    simp only [erewhilelaw34_CalruleTexts.j0, if_true]
    exact Ev.bind awake_ev ev_some
  | false =>
    simp only [erewhilelaw34_CalruleTexts.j0, Bool.false_eq_true, if_false]
    refine Ev.bind (texts_ev l) ?_
    refine Ev.bind (rtext_ev l) ?_
    simp only [if_true]
    refine Ev.bind (right_ev a b c) ?_
    refine Ev.bind (rright_ev a b c) ?_
    simp only [beq_self_eq_true]
    exact ev_some
end Go.Proofs.YthnifjggnjcenaaDoor.Pl
