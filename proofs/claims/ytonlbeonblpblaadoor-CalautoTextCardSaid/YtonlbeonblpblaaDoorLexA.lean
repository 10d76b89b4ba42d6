/-
  What the program's Lex computes, in plain Lean: 'lexP'. Condition: texts of at most 100000 bytes.
-/
import Derived.Test.YtonlbeonblpblaaDoorAllx5
namespace Go.Proofs.YtonlbeonblpblaaDoor.Pl
open Go.RowKit Go.Proofs.YtonlbeonblpblaaDoor.All Go.Proofs.YtonlbeonblpblaaDoorW.PrintWords
set_option linter.unusedVariables false
set_option linter.unusedSimpArgs false

theorem ev_succ {α : Type} {g : Nat → Option α} {r : α} (h : Ev (fun k => g (k + 1)) r) : Ev g r := Ev.step (fun _ => rfl) h
theorem ev_some {α : Type} {r : α} : Ev (fun _ => some r) r := Ev.now r
theorem wrap_nat (j : Nat) (h : j < 1000000000000) : wrap64 (j : Int) = (j : Int) := by
  unfold wrap64
  omega
theorem wrap_succ (j : Nat) (h : j < 1000000000) : wrap64 ((j : Int) + 1) = ((j + 1 : Nat) : Int) := by
  unfold wrap64
  omega

/-! ### bytes of a part -/
theorem bt_nat (s : ByteArray) (i : Nat) : bt s (i : Int) = if h : i < s.size then ((s[i]'h).toNat : Int) else 0 := by
  unfold bt
  simp only [Int.toNat_natCast]
theorem size_extract (s : ByteArray) (i j : Nat) (h : j ≤ s.size) : (s.extract i j).size = j - i := by
  rw [ByteArray.size_extract]
  omega
theorem bt_extract (s : ByteArray) (i j k : Nat) (hj : j ≤ s.size) (hk : k < j - i) : bt (s.extract i j) (k : Int) = bt s ((i + k : Nat) : Int) := by
  rw [bt_nat, bt_nat, dif_pos (by rw [size_extract s i j hj]; exact hk), dif_pos (by omega)]
  rw [ByteArray.getElem_extract]

theorem run_ge (p : Int → Bool) (s : ByteArray) : ∀ d i, i ≤ run p s d i
  | 0, i => Nat.le_refl _
  | d + 1, i => by
    unfold run
    split
    · exact Nat.le_trans (Nat.le_succ i) (run_ge p s d (i + 1))
    · exact Nat.le_refl _
theorem run_le (p : Int → Bool) (s : ByteArray) : ∀ d i, run p s d i ≤ i + d
  | 0, i => Nat.le_refl _
  | d + 1, i => by
    unfold run
    split
    · have := run_le p s d (i + 1); omega
    · omega
theorem run_extract (p : Int → Bool) (s : ByteArray) (i : Nat) : ∀ d j, i + j + d = s.size → i + run p (s.extract i s.size) d j = run p s d (i + j)
  | 0, j, _ => rfl
  | d + 1, j, h => by
    unfold run
    rw [bt_extract s i s.size j (Nat.le_refl _) (by omega)]
    split
    · have := run_extract p s i d (j + 1) (by omega)
      rw [this]
      rfl
    · rfl
theorem run_succ_of (p : Int → Bool) (s : ByteArray) (d i : Nat) (h : p (bt s i) = true) : run p s (d + 1) i = run p s d (i + 1) := by
  rw [run, if_pos h]

/-! ### the tokens -/
def endTok (s : ByteArray) : S69 := ⟨0, ⟨#[]⟩, 0, (s.size : Int)⟩
def lexP (s : ByteArray) : Nat → List S69 → Nat → List S69 × Int × Int
  | 0, acc, i => (acc ++ [endTok s], 0, 0)
  | d + 1, acc, i =>
    if i < s.size then
      if bt s i = 32 then lexP s d acc (i + 1)
      else if bt s i = 10 then lexP s d (acc ++ [⟨3, ⟨#[]⟩, 0, i⟩]) (i + 1)
      else if isLet (bt s i) = true then lexP s d (acc ++ [⟨1, s.extract i (run isLet s (s.size - i) i), 0, i⟩]) (run isLet s (s.size - i) i)
      else if isDig (bt s i) = true then
        if (minutesP (s.extract i (run isBoth s (s.size - i) i))).2 = true then lexP s d (acc ++ [⟨2, s.extract i (run isBoth s (s.size - i) i), (minutesP (s.extract i (run isBoth s (s.size - i) i))).1, i⟩]) (run isBoth s (s.size - i) i)
        else ([], i, 17)
      else ([], i, 17)
    else (acc ++ [endTok s], 0, 0)

theorem run_first (p : Int → Bool) (s : ByteArray) (i : Nat) (h : i < s.size) (hp : p (bt s i) = true) : i < run p s (s.size - i) i := by
  rw [show s.size - i = (s.size - (i + 1)) + 1 by omega, run_succ_of p s _ i hp]
  exact run_ge p s _ _

theorem front_letter_ev (s : ByteArray) (hs : s.size ≤ 100000) (i : Nat) (h : i ≤ s.size) : caltok_front_letter.f (s.extract i s.size) = some (((run isLet s (s.size - i) i : Nat) : Int) - (i : Int)) := by
  have hz := size_extract s i s.size (Nat.le_refl _)
  unfold caltok_front_letter.f
  rw [if_pos (by omega), hz]
  have := run_extract isLet s i (s.size - i) 0 (by omega)
  rw [Nat.add_zero] at this
  rw [← this]
  congr 1
  omega
theorem front_both_ev (s : ByteArray) (hs : s.size ≤ 100000) (i : Nat) (h : i ≤ s.size) : caltok_front_both.f (s.extract i s.size) = some (((run isBoth s (s.size - i) i : Nat) : Int) - (i : Int)) := by
  have hz := size_extract s i s.size (Nat.le_refl _)
  unfold caltok_front_both.f
  rw [if_pos (by omega), hz]
  have := run_extract isBoth s i (s.size - i) 0 (by omega)
  rw [Nat.add_zero] at this
  rw [← this]
  congr 1
  omega
theorem minutes_ev (s : ByteArray) (hs : s.size ≤ 100000) : caltok_Minutes.f s = some (minutesP s) := by
  unfold caltok_Minutes.f
  rw [if_pos (by omega)]

theorem lex_l0 (s : ByteArray) (hs : s.size ≤ 100000) : ∀ (d i : Nat) (acc : List S69), i ≤ s.size → s.size ≤ i + d → acc.length ≤ i → Ev (fun k => caltok_Lex.l0 k s acc (i : Int)) (lexP s d acc i)
  | 0, i, acc, hi, hd, ha => by
    obtain rfl : i = s.size := by omega
    refine ev_succ ?_
    have h1 : ¬ (s.size : Int) < (s.size : Int) := by omega
    have h2 : acc.length < 3518437208883 := by omega
    simp only [caltok_Lex.l0, if_neg h1, if_pos h2]
    exact ev_some
  | d + 1, i, acc, hi, hd, ha => by
    refine ev_succ ?_
    by_cases hlt : i < s.size
    · have h1 : (i : Int) < (s.size : Int) := by omega
      have h0 : (0 : Int) ≤ (i : Int) := by omega
      have h2 : acc.length < 3518437208883 := by omega
      have h3 : (i : Int) ≤ (s.size : Int) := by omega
      simp only [caltok_Lex.l0, lexP, if_pos h1, if_pos h0, if_pos hlt, wrap_succ i (by omega), letter_is, digit_is, Option.bind_some, if_pos h2, if_pos h3, Int.toNat_natCast]
      by_cases c1 : bt s i = 32
      · simp only [if_pos c1]
        exact lex_l0 s hs d (i + 1) acc (by omega) (by omega) (by omega)
      · by_cases c2 : bt s i = 10
        · simp only [if_neg c1, if_pos c2]
          exact lex_l0 s hs d (i + 1) _ (by omega) (by omega) (by simp; omega)
        · by_cases c3 : isLet (bt s i) = true
          · have g1 := run_first isLet s i hlt c3
            have g2 := run_le isLet s (s.size - i) i
            have e : wrap64 ((i : Int) + (((run isLet s (s.size - i) i : Nat) : Int) - (i : Int))) = ((run isLet s (s.size - i) i : Nat) : Int) := by unfold wrap64; omega
            have g3 : (i : Int) ≤ ((run isLet s (s.size - i) i : Nat) : Int) := by omega
            have g4 : ((run isLet s (s.size - i) i : Nat) : Int) ≤ (s.size : Int) := by omega
            simp only [if_neg c1, if_neg c2, if_pos c3, front_letter_ev s hs i hi, Option.bind_some, e, if_pos g3, if_pos g4, Int.toNat_natCast]
            exact lex_l0 s hs d _ _ (by omega) (by omega) (by simp; omega)
          · by_cases c4 : isDig (bt s i) = true
            · have c5 : isBoth (bt s i) = true := by unfold isBoth; rw [c4]; rfl
              have g1 := run_first isBoth s i hlt c5
              have g2 := run_le isBoth s (s.size - i) i
              have e : wrap64 ((i : Int) + (((run isBoth s (s.size - i) i : Nat) : Int) - (i : Int))) = ((run isBoth s (s.size - i) i : Nat) : Int) := by unfold wrap64; omega
              have g3 : (i : Int) ≤ ((run isBoth s (s.size - i) i : Nat) : Int) := by omega
              have g4 : ((run isBoth s (s.size - i) i : Nat) : Int) ≤ (s.size : Int) := by omega
              have g5 : (s.extract i (run isBoth s (s.size - i) i)).size ≤ 100000 := by rw [size_extract _ _ _ (by omega)]; omega
              simp only [if_neg c1, if_neg c2, if_neg c3, if_pos c4, front_both_ev s hs i hi, Option.bind_some, e, if_pos g3, if_pos g4, Int.toNat_natCast, minutes_ev _ g5]
              by_cases c6 : (minutesP (s.extract i (run isBoth s (s.size - i) i))).2 = true
              · simp only [if_pos c6]
                exact lex_l0 s hs d _ _ (by omega) (by omega) (by simp; omega)
              · simp only [if_neg c6]
                exact ev_some
            · simp only [if_neg c1, if_neg c2, if_neg c3, if_neg c4]
              exact ev_some
    · obtain rfl : i = s.size := by omega
      have h1 : ¬ (s.size : Int) < (s.size : Int) := by omega
      have h2 : acc.length < 3518437208883 := by omega
      simp only [caltok_Lex.l0, lexP, if_neg h1, if_neg hlt, if_pos h2]
      exact ev_some

def lexS (s : ByteArray) : List S69 × Int × Int := lexP s s.size [] 0
theorem lex_ev (s : ByteArray) (hs : s.size ≤ 100000) : Ev (fun k => caltok_Lex.f k s) (lexS s) := by
  simp only [caltok_Lex.f]
  exact lex_l0 s hs s.size 0 [] (by omega) (by omega) (by simp)
end Go.Proofs.YtonlbeonblpblaaDoor.Pl
