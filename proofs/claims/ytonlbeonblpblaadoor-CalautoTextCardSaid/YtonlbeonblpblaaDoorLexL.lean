/-
  Lex and Minutes over lists of bytes, in plain Lean. No condition.
-/
import Derived.Test.YtonlbeonblpblaaDoorLexA
namespace Go.Proofs.YtonlbeonblpblaaDoor.Pl
open Go.RowKit Go.Proofs.YtonlbeonblpblaaDoor.All Go.Proofs.YtonlbeonblpblaaDoorW.PrintWords
set_option linter.unusedVariables false
set_option linter.unusedSimpArgs false

def lst (s : ByteArray) : List UInt8 := s.data.toList
def ofL (l : List UInt8) : ByteArray := ⟨l.toArray⟩
theorem lst_ofL (l : List UInt8) : lst (ofL l) = l := by simp [lst, ofL]
theorem ofL_lst (s : ByteArray) : ofL (lst s) = s := by
  cases s
  simp [lst, ofL]
theorem lst_len (s : ByteArray) : (lst s).length = s.size := by
  unfold lst
  rw [Array.length_toList]
  rfl
theorem lst_inj {s t : ByteArray} (h : lst s = lst t) : s = t := by rw [← ofL_lst s, ← ofL_lst t, h]
theorem lst_append (a b : ByteArray) : lst (a ++ b) = lst a ++ lst b := by
  unfold lst
  rw [ByteArray.data_append, Array.toList_append]
theorem lst_extract (s : ByteArray) (i j : Nat) : lst (s.extract i j) = ((lst s).drop i).take (j - i) := by
  unfold lst
  rw [ByteArray.data_extract]
  simp [List.extract_eq_take_drop]
theorem ofL_append (a b : List UInt8) : ofL (a ++ b) = ofL a ++ ofL b := lst_inj (by rw [lst_append, lst_ofL, lst_ofL, lst_ofL])
def ch (c : UInt8) : Int := (c.toNat : Int)
theorem bt_lst (s : ByteArray) (i : Nat) : bt s (i : Int) = match (lst s)[i]? with | some c => ch c | none => 0 := by
  rw [bt_nat]
  by_cases h : i < s.size
  · rw [dif_pos h]
    have : (lst s)[i]? = some s[i] := by
      unfold lst
      rw [Array.getElem?_toList]
      exact Array.getElem?_eq_getElem h
    rw [this]
    rfl
  · rw [dif_neg h, List.getElem?_eq_none (by rw [lst_len]; omega)]

/-! ### how far a kind goes -/
theorem run_lst (p : Int → Bool) (s : ByteArray) : ∀ (d i : Nat), i + d = s.size → run p s d i = i + (((lst s).drop i).takeWhile (fun c => p (ch c))).length
  | 0, i, h => by
    rw [List.drop_eq_nil_of_le (by rw [lst_len]; omega)]
    simp [run]
  | d + 1, i, h => by
    have hi : i < (lst s).length := by rw [lst_len]; omega
    rw [List.drop_eq_getElem_cons hi, List.takeWhile_cons, run]
    rw [bt_lst, List.getElem?_eq_getElem hi]
    simp only
    by_cases hp : p (ch (lst s)[i]) = true
    · rw [if_pos hp, if_pos hp, run_lst p s d (i + 1) (by omega)]
      simp
      omega
    · rw [if_neg hp, if_neg hp]
      rfl

/-! ### minutes -/
def minL (ok : Bool) : List UInt8 → Int → Option Int
  | [], n => some n
  | c :: r, n => if ok = true then if isDig (ch c) = true then if n > 1073741824 then none else minL ok r (10 * n + (ch c - 48)) else none else none
theorem minRun_lst (s : ByteArray) (ok : Bool) : ∀ (d i : Nat) (n : Int), i + d ≤ s.size → minRun s ok d i n = minL ok (((lst s).drop i).take d) n
  | 0, i, n, h => by simp [minRun, minL]
  | d + 1, i, n, h => by
    have hi : i < (lst s).length := by rw [lst_len]; omega
    rw [List.drop_eq_getElem_cons hi, List.take_succ_cons, minL, minRun]
    rw [bt_lst, List.getElem?_eq_getElem hi]
    simp only
    rw [minRun_lst s ok d (i + 1) _ (by omega)]
def minuL (l : List UInt8) : Int × Bool :=
  match l.getLast?, l.head? with
  | some u, some c => if l.length < 2 then (0, false) else if ch c = 48 ∧ 2 < l.length then (0, false) else minEnd (ch u) (minL (isUnit (ch u)) l.dropLast 0)
  | _, _ => (0, false)
theorem minutes_lst (s : ByteArray) : minutesP s = minuL (lst s) := by
  unfold minutesP minuL
  have hl := lst_len s
  cases hs : lst s with
  | nil =>
    rw [hs] at hl
    simp at hl
    rw [if_pos (by omega)]
    rfl
  | cons c r =>
    have hne : lst s ≠ [] := by rw [hs]; simp
    have e1 : (c :: r).getLast? = some ((lst s).getLast hne) := by
      rw [← List.getLast?_eq_some_getLast hne, hs]
    have e2 : bt s 0 = ch c := by
      have := bt_lst s 0
      rw [hs] at this
      exact this
    rw [hs] at hl
    simp only [e1, List.head?_cons, hl]
    by_cases c1 : s.size < 2
    · rw [if_pos c1, if_pos c1]
    · rw [if_neg c1, if_neg c1, e2]
      by_cases c2 : ch c = 48 ∧ 2 < s.size
      · rw [if_pos c2, if_pos c2]
      · rw [if_neg c2, if_neg c2]
        have e3 : bt s ((s.size : Int) - 1) = ch ((lst s).getLast hne) := by
          have h := bt_lst s (s.size - 1)
          rw [show ((s.size - 1 : Nat) : Int) = (s.size : Int) - 1 by omega] at h
          rw [h, List.getLast_eq_getElem, List.getElem?_eq_getElem (by rw [lst_len]; omega)]
          congr 2
        rw [e3, minRun_lst s _ _ 0 0 (by omega), List.drop_zero, ← hs, List.dropLast_eq_take, lst_len]

/-! ### tokens -/
def lexL : Nat → List UInt8 → Nat → Except Nat (List S69)
  | 0, _, a => .ok [⟨0, ofL [], 0, a⟩]
  | _ + 1, [], a => .ok [⟨0, ofL [], 0, a⟩]
  | d + 1, c :: r, a =>
    if ch c = 32 then lexL d r (a + 1)
    else if ch c = 10 then (lexL d r (a + 1)).map (fun l => ⟨3, ofL [], 0, a⟩ :: l)
    else if isLet (ch c) = true then
      (lexL d ((c :: r).dropWhile (fun x => isLet (ch x))) (a + ((c :: r).takeWhile (fun x => isLet (ch x))).length)).map (fun l => ⟨1, ofL ((c :: r).takeWhile (fun x => isLet (ch x))), 0, a⟩ :: l)
    else if isDig (ch c) = true then
      if (minuL ((c :: r).takeWhile (fun x => isBoth (ch x)))).2 = true then
        (lexL d ((c :: r).dropWhile (fun x => isBoth (ch x))) (a + ((c :: r).takeWhile (fun x => isBoth (ch x))).length)).map (fun l => ⟨2, ofL ((c :: r).takeWhile (fun x => isBoth (ch x))), (minuL ((c :: r).takeWhile (fun x => isBoth (ch x)))).1, a⟩ :: l)
      else .error a
    else .error a
def outL (acc : List S69) : Except Nat (List S69) → List S69 × Int × Int
  | .ok l => (acc ++ l, 0, 0)
  | .error j => ([], (j : Int), 17)
theorem outL_map (acc : List S69) (t : S69) (x : Except Nat (List S69)) : outL acc (x.map (fun l => t :: l)) = outL (acc ++ [t]) x := by
  cases x with
  | ok l => simp [outL, Except.map]
  | error j => rfl

theorem take_while_take {α : Type} (p : α → Bool) (l : List α) : l.take (l.takeWhile p).length = l.takeWhile p := by
  conv => lhs; arg 2; rw [← List.takeWhile_append_dropWhile (p := p) (l := l)]
  rw [List.take_append_of_le_length (Nat.le_refl _), List.take_length]
theorem drop_while_drop {α : Type} (p : α → Bool) (l : List α) : l.drop (l.takeWhile p).length = l.dropWhile p := by
  conv => lhs; arg 2; rw [← List.takeWhile_append_dropWhile (p := p) (l := l)]
  rw [List.drop_append_of_le_length (Nat.le_refl _), List.drop_length, List.nil_append]

theorem lexP_lst (s : ByteArray) : ∀ (d i : Nat) (acc : List S69), i ≤ s.size → s.size ≤ i + d → lexP s d acc i = outL acc (lexL d ((lst s).drop i) i)
  | 0, i, acc, hi, hd => by
    obtain rfl : i = s.size := by omega
    rfl
  | d + 1, i, acc, hi, hd => by
    rw [lexP]
    by_cases hlt : i < s.size
    · have hl : i < (lst s).length := by rw [lst_len]; exact hlt
      have hdr := List.drop_eq_getElem_cons hl
      have hb : bt s (i : Int) = ch (lst s)[i] := by rw [bt_lst, List.getElem?_eq_getElem hl]
      have r1 := run_lst isLet s (s.size - i) i (by omega)
      have r2 := run_lst isBoth s (s.size - i) i (by omega)
      have l1 := run_le isLet s (s.size - i) i
      have l2 := run_le isBoth s (s.size - i) i
      have x1 : s.extract i (run isLet s (s.size - i) i) = ofL (((lst s).drop i).takeWhile (fun x => isLet (ch x))) := lst_inj (by
        rw [lst_extract, lst_ofL, r1, Nat.add_sub_cancel_left, take_while_take])
      have x2 : s.extract i (run isBoth s (s.size - i) i) = ofL (((lst s).drop i).takeWhile (fun x => isBoth (ch x))) := lst_inj (by
        rw [lst_extract, lst_ofL, r2, Nat.add_sub_cancel_left, take_while_take])
      have d1 : (lst s).drop (run isLet s (s.size - i) i) = ((lst s).drop i).dropWhile (fun x => isLet (ch x)) := by
        rw [r1, ← List.drop_drop, drop_while_drop]
      have d2 : (lst s).drop (run isBoth s (s.size - i) i) = ((lst s).drop i).dropWhile (fun x => isBoth (ch x)) := by
        rw [r2, ← List.drop_drop, drop_while_drop]
      rw [if_pos hlt, hb]
      rw [x1, x2, minutes_lst, lst_ofL]
      have ih0 := lexP_lst s d (i + 1) acc (by omega) (by omega)
      have ih1 := fun t => lexP_lst s d (i + 1) (acc ++ [t]) (by omega) (by omega)
      have g1 : isLet (ch (lst s)[i]) = true → i < run isLet s (s.size - i) i := fun h => run_first isLet s i hlt (by rw [hb]; exact h)
      have g2 : isDig (ch (lst s)[i]) = true → i < run isBoth s (s.size - i) i := fun h => run_first isBoth s i hlt (by rw [hb]; simp [isBoth, h])
      have ih2 := fun t (h : isLet (ch (lst s)[i]) = true) => lexP_lst s d (run isLet s (s.size - i) i) (acc ++ [t]) (by omega) (by have := g1 h; omega)
      have ih3 := fun t (h : isDig (ch (lst s)[i]) = true) => lexP_lst s d (run isBoth s (s.size - i) i) (acc ++ [t]) (by omega) (by have := g2 h; omega)
      rw [d1, hdr] at ih2
      rw [d2, hdr] at ih3
      rw [hdr, lexL]
      rw [hdr] at r1 r2
      by_cases c1 : ch (lst s)[i] = 32
      · rw [if_pos c1, if_pos c1]
        exact ih0
      · rw [if_neg c1, if_neg c1]
        by_cases c2 : ch (lst s)[i] = 10
        · rw [if_pos c2, if_pos c2, outL_map]
          exact ih1 _
        · rw [if_neg c2, if_neg c2]
          by_cases c3 : isLet (ch (lst s)[i]) = true
          · rw [if_pos c3, if_pos c3, outL_map, ih2 _ c3, r1]
          · rw [if_neg c3, if_neg c3]
            by_cases c4 : isDig (ch (lst s)[i]) = true
            · rw [if_pos c4, if_pos c4]
              split
              · rw [outL_map, ih3 _ c4, r2]
              · rfl
            · rw [if_neg c4, if_neg c4]
              rfl
    · obtain rfl : i = s.size := by omega
      rw [if_neg hlt, List.drop_eq_nil_of_le (by rw [lst_len]; omega)]
      rfl

theorem lexL_fuel : ∀ (d d' : Nat) (l : List UInt8) (a : Nat), l.length ≤ d → l.length ≤ d' → lexL d l a = lexL d' l a
  | 0, 0, l, a, _, _ => rfl
  | 0, d' + 1, l, a, h, _ => by
    obtain rfl := List.eq_nil_of_length_eq_zero (Nat.le_zero.1 h)
    rfl
  | d + 1, 0, l, a, _, h => by
    obtain rfl := List.eq_nil_of_length_eq_zero (Nat.le_zero.1 h)
    rfl
  | d + 1, d' + 1, [], a, _, _ => rfl
  | d + 1, d' + 1, c :: r, a, h, h' => by
    simp only [List.length_cons] at h h'
    have hd : ∀ p : UInt8 → Bool, p c = true → ((c :: r).dropWhile p).length ≤ r.length := fun p hp => by
      rw [List.dropWhile_cons, if_pos hp]
      exact List.IsSuffix.length_le (List.dropWhile_suffix p)
    rw [lexL, lexL]
    have e0 := lexL_fuel d d' r (a + 1) (by omega) (by omega)
    rw [e0]
    by_cases c3 : isLet (ch c) = true
    · have := hd (fun x => isLet (ch x)) c3
      rw [if_pos c3, if_pos c3, lexL_fuel d d' _ _ (by omega) (by omega)]
    · rw [if_neg c3, if_neg c3]
      by_cases c4 : isDig (ch c) = true
      · have := hd (fun x => isBoth (ch x)) (by simp [isBoth, c4])
        rw [if_pos c4, if_pos c4, lexL_fuel d d' _ _ (by omega) (by omega)]
      · rw [if_neg c4, if_neg c4]
def lexT (l : List UInt8) (a : Nat) : Except Nat (List S69) := lexL l.length l a
theorem lexS_lst (s : ByteArray) : lexS s = outL [] (lexT (lst s) 0) := by
  unfold lexS lexT
  rw [lexP_lst s s.size 0 [] (by omega) (by omega), List.drop_zero, lst_len]
/-- One step. -/
theorem lexT_nil (a : Nat) : lexT [] a = .ok [⟨0, ofL [], 0, a⟩] := rfl
theorem lexT_blank (c : UInt8) (r : List UInt8) (a : Nat) (h : ch c = 32) : lexT (c :: r) a = lexT r (a + 1) := by
  unfold lexT
  rw [List.length_cons, lexL, if_pos h]
theorem lexT_line (c : UInt8) (r : List UInt8) (a : Nat) (h : ch c = 10) : lexT (c :: r) a = (lexT r (a + 1)).map (fun l => ⟨3, ofL [], 0, a⟩ :: l) := by
  unfold lexT
  rw [List.length_cons, lexL, if_neg (by rw [h]; decide), if_pos h]
theorem let_not {c : Int} (h : isLet c = true) : c ≠ 32 ∧ c ≠ 10 ∧ isDig c = false := by
  simp [isLet] at h
  refine ⟨by omega, by omega, ?_⟩
  simp [isDig]
  omega
theorem dig_not {c : Int} (h : isDig c = true) : c ≠ 32 ∧ c ≠ 10 ∧ isLet c = false := by
  simp [isDig] at h
  refine ⟨by omega, by omega, ?_⟩
  simp [isLet]
  omega
theorem lexT_word (c : UInt8) (r : List UInt8) (a : Nat) (h : isLet (ch c) = true) :
    lexT (c :: r) a = (lexT ((c :: r).dropWhile (fun x => isLet (ch x))) (a + ((c :: r).takeWhile (fun x => isLet (ch x))).length)).map (fun l => ⟨1, ofL ((c :: r).takeWhile (fun x => isLet (ch x))), 0, a⟩ :: l) := by
  unfold lexT
  have hd : ((c :: r).dropWhile (fun x => isLet (ch x))).length ≤ r.length := by
    rw [List.dropWhile_cons, if_pos h]
    exact List.IsSuffix.length_le (List.dropWhile_suffix _)
  rw [List.length_cons, lexL, if_neg (let_not h).1, if_neg (let_not h).2.1, if_pos h, lexL_fuel r.length _ _ _ hd (Nat.le_refl _)]
theorem lexT_time (c : UInt8) (r : List UInt8) (a : Nat) (h : isDig (ch c) = true) :
    lexT (c :: r) a = if (minuL ((c :: r).takeWhile (fun x => isBoth (ch x)))).2 = true then
        (lexT ((c :: r).dropWhile (fun x => isBoth (ch x))) (a + ((c :: r).takeWhile (fun x => isBoth (ch x))).length)).map (fun l => ⟨2, ofL ((c :: r).takeWhile (fun x => isBoth (ch x))), (minuL ((c :: r).takeWhile (fun x => isBoth (ch x)))).1, a⟩ :: l)
      else .error a := by
  unfold lexT
  have hd : ((c :: r).dropWhile (fun x => isBoth (ch x))).length ≤ r.length := by
    rw [List.dropWhile_cons, if_pos (by simp [isBoth, h])]
    exact List.IsSuffix.length_le (List.dropWhile_suffix _)
  rw [List.length_cons, lexL, if_neg (dig_not h).1, if_neg (dig_not h).2.1, if_neg (by rw [(dig_not h).2.2]; decide), if_pos h, lexL_fuel r.length _ _ _ hd (Nat.le_refl _)]
theorem lexT_other (c : UInt8) (r : List UInt8) (a : Nat) (h1 : ch c ≠ 32) (h2 : ch c ≠ 10) (h3 : isLet (ch c) = false) (h4 : isDig (ch c) = false) : lexT (c :: r) a = .error a := by
  unfold lexT
  rw [List.length_cons, lexL, if_neg h1, if_neg h2, if_neg (by rw [h3]; decide), if_neg (by rw [h4]; decide)]
end Go.Proofs.YtonlbeonblpblaaDoor.Pl
