/-
  The tokens of a rule's line, and of many; and that Parse finds the rules again. Condition: right rules.
-/
import Derived.Test.YtonlbeonblpblaaDoorTextQ
namespace Go.Proofs.YtonlbeonblpblaaDoor.Pl
open Go.RowKit Go.Proofs.YtonlbeonblpblaaDoor.All Go.Proofs.YtonlbeonblpblaaDoorW.PrintWords
set_option linter.unusedVariables false
set_option linter.unusedSimpArgs false

/-- A word's or a time's token, but for its place. -/
def itemT (r : S46) (w : ByteArray) : S69 := if w.toList = [35] then ⟨2, ofL (textA r.f1), r.f1, 0⟩ else if w.toList = [33] then ⟨2, ofL (textA r.f2), r.f2, 0⟩ else ⟨1, w, 0, 0⟩
def goodI (t : S69) : Prop := (t.f0 = 1 ∧ t.f2 = 0 ∧ lst t.f1 ≠ [] ∧ ∀ c ∈ lst t.f1, isLet (ch c) = true) ∨ (t.f0 = 2 ∧ ∃ n : Nat, n ≤ 1073741824 ∧ t.f2 = (n : Int) ∧ lst t.f1 = textL n)
def putT (t : S69) (a : Nat) : S69 := ⟨t.f0, t.f1, t.f2, (a : Int)⟩
theorem both_text (n : Nat) : ∀ c ∈ textL n, isBoth (ch c) = true := by
  intro c hc
  unfold textL at hc
  unfold isBoth
  rcases List.mem_append.1 hc with hc | hc
  · rw [dec_all _ c hc]
    rfl
  · rw [List.mem_singleton.1 hc, (unit_ok n).2.2.2, Bool.or_true]
theorem isBoth_or (c : Int) : isBoth c = (isDig c || isLet c) := rfl
theorem lex_item {t : S69} (h : goodI t) (x : UInt8) (hx : ch x = 32 ∨ ch x = 10) (m : List UInt8) (a : Nat) : lexT (lst t.f1 ++ x :: m) a = (lexT (x :: m) (a + (lst t.f1).length)).map (fun l => putT t a :: l) := by
  have hxl : isLet (ch x) = false := by rcases hx with h | h <;> rw [h] <;> decide
  have hxb : isBoth (ch x) = false := by rcases hx with h | h <;> rw [h] <;> decide
  rcases h with ⟨h0, h2, hne, hl⟩ | ⟨h0, n, hn, h2, hl⟩
  · cases hc : lst t.f1 with
    | nil => exact absurd hc hne
    | cons c r =>
      rw [hc] at hl
      have hcl := hl c (.head _)
      have hb := take_whole (fun y => isLet (ch y)) x m hxl (c :: r) hl
      rw [List.cons_append] at hb ⊢
      rw [lexT_word c _ a hcl, hb.1, hb.2]
      have e : ofL (c :: r) = t.f1 := by rw [← hc, ofL_lst]
      rw [e]
      have ep : (⟨1, t.f1, 0, (a : Int)⟩ : S69) = putT t a := by unfold putT; rw [h0, h2]
      rw [ep]
  · obtain ⟨c, r, hc, hd, _⟩ := textL_cons n
    rw [hl]
    have hall := both_text n
    have hb := take_whole (fun y => isBoth (ch y)) x m hxb (textL n) hall
    have hm := minuL_text n hn
    rw [hc] at hb ⊢
    rw [List.cons_append] at hb ⊢
    rw [lexT_time c _ a hd, hb.1, hb.2, ← hc, hm, if_pos rfl]
    have e : ofL (textL n) = t.f1 := by rw [← hl, ofL_lst]
    have ep : (⟨2, ofL (textL n), (n : Int), (a : Int)⟩ : S69) = putT t a := by unfold putT; rw [h0, h2, e]
    rw [ep]
/-- Tokens with blanks between. -/
def joinI : List S69 → List UInt8
  | [] => []
  | [t] => lst t.f1
  | t :: u :: ts => lst t.f1 ++ 32 :: joinI (u :: ts)
def placeI : List S69 → Nat → List S69
  | [], _ => []
  | t :: ts, a => putT t a :: placeI ts (a + (lst t.f1).length + 1)
theorem placeI_strip : ∀ (ts : List S69) (a : Nat), (placeI ts a).map stripT = ts.map stripT
  | [], _ => rfl
  | t :: ts, a => by rw [placeI, List.map_cons, List.map_cons, placeI_strip ts]; rfl
theorem placeI_len : ∀ (ts : List S69) (a : Nat), (placeI ts a).length = ts.length
  | [], _ => rfl
  | t :: ts, a => by rw [placeI, List.length_cons, List.length_cons, placeI_len ts]
theorem map_map {α : Type} (X : Except Nat α) (f g : α → α) : (X.map f).map g = X.map (fun l => g (f l)) := by cases X <;> rfl
/-- Tokens joined, and behind them a line's end or a blank. -/
theorem lex_join (x : UInt8) (hx : ch x = 32 ∨ ch x = 10) (m : List UInt8) : ∀ (ts : List S69) (a : Nat), ts ≠ [] → (∀ t ∈ ts, goodI t) → lexT (joinI ts ++ x :: m) a = (lexT (x :: m) (a + (joinI ts).length)).map (fun l => placeI ts a ++ l)
  | [], a, h, _ => absurd rfl h
  | [t], a, _, hg => by
    rw [joinI, lex_item (hg t (.head _)) x hx m a]
    rfl
  | t :: u :: ts, a, _, hg => by
    rw [joinI, List.append_assoc, List.cons_append, lex_item (hg t (.head _)) 32 (.inl rfl) _ a, lexT_blank 32 _ _ rfl, lex_join x hx m (u :: ts) _ (by simp) (fun y hy => hg y (.tail _ hy)), map_map]
    have e : a + (lst t.f1).length + 1 + (joinI (u :: ts)).length = a + (lst t.f1 ++ 32 :: joinI (u :: ts)).length := by simp; omega
    rw [e, placeI]
    rfl

/-! ### a rule's tokens -/
def itemsT (r : S46) : List S69 := (wordL r.f0).map (itemT r)
theorem itemT_lst (r : S46) (w : ByteArray) : lst (itemT r w).f1 = wordT r w := by
  unfold itemT wordT
  split
  · exact lst_ofL _
  · split
    · exact lst_ofL _
    · rfl
theorem words_join (r : S46) : ∀ (ws : List ByteArray), wordsT r ws true = joinI (ws.map (itemT r)) ∧ wordsT r ws false = (if ws = [] then [] else 32 :: joinI (ws.map (itemT r)))
  | [] => ⟨rfl, rfl⟩
  | [w] => by
    simp [wordsT, joinI, itemT_lst]
  | w :: v :: ws => by
    obtain ⟨h1, h2⟩ := words_join r (v :: ws)
    rw [if_neg (by simp)] at h2
    constructor
    · rw [wordsT, h2]
      simp [joinI, itemT_lst]
    · rw [wordsT, h2, if_neg (by simp)]
      simp [joinI, itemT_lst]
theorem lineT_join (r : S46) : lineT r = joinI (itemsT r) ++ [10] := by
  unfold lineT itemsT
  rw [(words_join r _).1]
theorem rightB_times {r : S46} (h : rightB r.f0 r.f1 r.f2 = true) : (1 ≤ r.f2 ∧ r.f2 ≤ 1073741824) ∧ ((r.f0 = 1 ∨ r.f0 = 4) ∧ r.f1 = 0 ∨ (r.f0 = 2 ∨ r.f0 = 3) ∧ 1 ≤ r.f1 ∧ r.f1 ≤ 1073741824) := by
  unfold rightB spanB at h
  split at h
  · rename_i h1
    simp only [Bool.and_eq_true, decide_eq_true_eq] at h
    exact ⟨h.2, .inl ⟨h1, h.1⟩⟩
  · split at h
    · rename_i h1
      simp only [Bool.and_eq_true, decide_eq_true_eq] at h
      exact ⟨h.2, .inr ⟨h1, h.1⟩⟩
    · cases h
theorem textA_of {n : Int} (h : 0 ≤ n ∧ n ≤ 1073741824) : textA n = textL n.toNat := by
  unfold textA
  rw [if_pos h]
theorem lst_word (w : ByteArray) : lst w = w.data.toList := rfl
theorem good_word {w : ByteArray} (h1 : lst w ≠ []) (h2 : (lst w).all (fun c => isLet (ch c)) = true) : goodI ⟨1, w, 0, 0⟩ :=
  .inl ⟨rfl, rfl, h1, fun c hc => List.all_eq_true.1 h2 c hc⟩
theorem good_time {n : Int} (h : 0 ≤ n ∧ n ≤ 1073741824) : goodI ⟨2, ofL (textA n), n, 0⟩ :=
  .inr ⟨rfl, n.toNat, by omega, by show n = ((n.toNat : Nat) : Int); omega, by rw [lst_ofL, textA_of h]⟩
theorem item_word {r : S46} {w : ByteArray} (h1 : w.toList ≠ [35]) (h2 : w.toList ≠ [33]) : itemT r w = ⟨1, w, 0, 0⟩ := by
  unfold itemT
  rw [if_neg h1, if_neg h2]
theorem iE (r : S46) : itemT r wE = ⟨1, wE, 0, 0⟩ := item_word (by rw [tl]; decide) (by rw [tl]; decide)
theorem iQ (r : S46) : itemT r wQ = ⟨1, wQ, 0, 0⟩ := item_word (by rw [tl]; decide) (by rw [tl]; decide)
theorem iN (r : S46) : itemT r wN = ⟨1, wN, 0, 0⟩ := item_word (by rw [tl]; decide) (by rw [tl]; decide)
theorem iW (r : S46) : itemT r wW = ⟨1, wW, 0, 0⟩ := item_word (by rw [tl]; decide) (by rw [tl]; decide)
theorem iF (r : S46) : itemT r wF = ⟨1, wF, 0, 0⟩ := item_word (by rw [tl]; decide) (by rw [tl]; decide)
theorem iA (r : S46) : itemT r wA = ⟨1, wA, 0, 0⟩ := item_word (by rw [tl]; decide) (by rw [tl]; decide)
theorem iH (r : S46) : itemT r wH = ⟨2, ofL (textA r.f1), r.f1, 0⟩ := by unfold itemT; rw [if_pos (by rw [tl]; rfl)]
theorem iX (r : S46) : itemT r wX = ⟨2, ofL (textA r.f2), r.f2, 0⟩ := by unfold itemT; rw [if_neg (by rw [tl]; decide), if_pos (by rw [tl]; rfl)]
/-- The four forms. -/
theorem items_kind {r : S46} (h : rightB r.f0 r.f1 r.f2 = true) :
    (r.f0 = 1 ∧ r.f1 = 0 ∧ itemsT r = [⟨1, wE, 0, 0⟩, ⟨1, wW, 0, 0⟩, ⟨1, wF, 0, 0⟩, ⟨2, ofL (textA r.f2), r.f2, 0⟩]) ∨ (r.f0 = 2 ∧ itemsT r = [⟨1, wE, 0, 0⟩, ⟨2, ofL (textA r.f1), r.f1, 0⟩, ⟨1, wF, 0, 0⟩, ⟨2, ofL (textA r.f2), r.f2, 0⟩]) ∨
    (r.f0 = 3 ∧ itemsT r = [⟨1, wQ, 0, 0⟩, ⟨2, ofL (textA r.f1), r.f1, 0⟩, ⟨1, wF, 0, 0⟩, ⟨2, ofL (textA r.f2), r.f2, 0⟩]) ∨ (r.f0 = 4 ∧ r.f1 = 0 ∧ itemsT r = [⟨1, wN, 0, 0⟩, ⟨1, wA, 0, 0⟩, ⟨2, ofL (textA r.f2), r.f2, 0⟩]) := by
  obtain ⟨_, h2⟩ := rightB_times h
  unfold itemsT
  rcases h2 with ⟨h3 | h3, h4⟩ | ⟨h3 | h3, h4⟩
  · left
    refine ⟨h3, h4, ?_⟩
    rw [h3, word1]
    simp only [List.map_cons, List.map_nil, iE, iW, iF, iX]
  · right; right; right
    refine ⟨h3, h4, ?_⟩
    rw [h3, word4]
    simp only [List.map_cons, List.map_nil, iN, iA, iX]
  · right; left
    refine ⟨h3, ?_⟩
    rw [h3, word2]
    simp only [List.map_cons, List.map_nil, iE, iH, iF, iX]
  · right; right; left
    refine ⟨h3, ?_⟩
    rw [h3, word3]
    simp only [List.map_cons, List.map_nil, iQ, iH, iF, iX]
theorem items_good {r : S46} (h : rightB r.f0 r.f1 r.f2 = true) : ∀ t ∈ itemsT r, goodI t := by
  obtain ⟨h1, h2⟩ := rightB_times h
  have gE : goodI ⟨1, wE, 0, 0⟩ := good_word (by decide) (by decide)
  have gQ : goodI ⟨1, wQ, 0, 0⟩ := good_word (by decide) (by decide)
  have gN : goodI ⟨1, wN, 0, 0⟩ := good_word (by decide) (by decide)
  have gW : goodI ⟨1, wW, 0, 0⟩ := good_word (by decide) (by decide)
  have gF : goodI ⟨1, wF, 0, 0⟩ := good_word (by decide) (by decide)
  have gA : goodI ⟨1, wA, 0, 0⟩ := good_word (by decide) (by decide)
  have gX : goodI ⟨2, ofL (textA r.f2), r.f2, 0⟩ := good_time (by omega)
  have gH : goodI ⟨2, ofL (textA r.f1), r.f1, 0⟩ := good_time (by omega)
  intro t ht
  rcases items_kind h with ⟨_, _, e⟩ | ⟨_, e⟩ | ⟨_, e⟩ | ⟨_, _, e⟩ <;> rw [e] at ht <;> simp only [List.mem_cons, List.not_mem_nil, or_false] at ht
  · rcases ht with rfl | rfl | rfl | rfl
    · exact gE
    · exact gW
    · exact gF
    · exact gX
  · rcases ht with rfl | rfl | rfl | rfl
    · exact gE
    · exact gH
    · exact gF
    · exact gX
  · rcases ht with rfl | rfl | rfl | rfl
    · exact gQ
    · exact gH
    · exact gF
    · exact gX
  · rcases ht with rfl | rfl | rfl
    · exact gN
    · exact gA
    · exact gX
theorem items_ne (r : S46) (h : rightB r.f0 r.f1 r.f2 = true) : itemsT r ≠ [] := by
  rcases items_kind h with ⟨_, _, e⟩ | ⟨_, e⟩ | ⟨_, e⟩ | ⟨_, _, e⟩ <;> rw [e] <;> simp
end Go.Proofs.YtonlbeonblpblaaDoor.Pl
