/-
  The lines of right rules are parsed as these rules. Condition: right rules, sixteen at most.
-/
import Derived.Test.YtonlbeonblpblaaDoorLexQ
namespace Go.Proofs.YtonlbeonblpblaaDoor.Pl
open Go.RowKit Go.Proofs.YtonlbeonblpblaaDoor.All Go.Proofs.YtonlbeonblpblaaDoorW.PrintWords
set_option linter.unusedVariables false
set_option linter.unusedSimpArgs false

theorem fitW_strip {t u : S69} (h : stripT t = stripT u) (w : ByteArray) : fitW w t = fitW w u := by
  obtain ⟨t0, t1, t2, t3⟩ := t
  obtain ⟨u0, u1, u2, u3⟩ := u
  simp only [stripT, S69.mk.injEq] at h
  obtain ⟨rfl, rfl, rfl, _⟩ := h
  rfl
theorem strip_f {t u : S69} (h : stripT t = stripT u) : t.f0 = u.f0 ∧ t.f2 = u.f2 := by
  obtain ⟨t0, t1, t2, t3⟩ := t
  obtain ⟨u0, u1, u2, u3⟩ := u
  simp only [stripT, S69.mk.injEq] at h
  exact ⟨h.1, h.2.2.1⟩
theorem fit_self {w : ByteArray} (h1 : w.toList ≠ [35]) (h2 : w.toList ≠ [33]) : fitW w ⟨1, w, 0, 0⟩ = true := (fitW_word h1 h2 _).2 ⟨rfl, rfl⟩
theorem fit_excl' {t : S69} : (fitW wE t = true → fitW wQ t = false ∧ fitW wN t = false) ∧ (fitW wQ t = true → fitW wN t = false) := by
  constructor
  · intro h
    rw [fE] at h
    constructor
    · cases h' : fitW wQ t with
      | false => rfl
      | true => rw [fQ, h.2] at h'; cases h'.2
    · cases h' : fitW wN t with
      | false => rfl
      | true => rw [fN, h.2] at h'; cases h'.2
  · intro h
    rw [fQ] at h
    cases h' : fitW wN t with
    | false => rfl
    | true => rw [fN, h.2] at h'; cases h'.2
theorem fe {t : S69} (h : stripT t = stripT ⟨1, wE, 0, 0⟩) : fitW wE t = true := by rw [fitW_strip h, fit_self (by rw [tl]; decide) (by rw [tl]; decide)]
theorem fq {t : S69} (h : stripT t = stripT ⟨1, wQ, 0, 0⟩) : fitW wE t = false ∧ fitW wQ t = true := by
  have h2 : fitW wQ t = true := by rw [fitW_strip h, fit_self (by rw [tl]; decide) (by rw [tl]; decide)]
  refine ⟨?_, h2⟩
  cases h3 : fitW wE t with
  | false => rfl
  | true => rw [(fit_excl'.1 h3).1] at h2; cases h2
theorem fn {t : S69} (h : stripT t = stripT ⟨1, wN, 0, 0⟩) : fitW wE t = false ∧ fitW wQ t = false ∧ fitW wN t = true := by
  have h2 : fitW wN t = true := by rw [fitW_strip h, fit_self (by rw [tl]; decide) (by rw [tl]; decide)]
  refine ⟨?_, ?_, h2⟩
  · cases h3 : fitW wE t with
    | false => rfl
    | true => rw [(fit_excl'.1 h3).2] at h2; cases h2
  · cases h3 : fitW wQ t with
    | false => rfl
    | true => rw [fit_excl'.2 h3] at h2; cases h2
theorem fw {t : S69} (h : stripT t = stripT ⟨1, wW, 0, 0⟩) : fitW wW t = true := by rw [fitW_strip h, fit_self (by rw [tl]; decide) (by rw [tl]; decide)]
theorem ff {t : S69} (h : stripT t = stripT ⟨1, wF, 0, 0⟩) : fitW wF t = true := by rw [fitW_strip h, fit_self (by rw [tl]; decide) (by rw [tl]; decide)]
theorem fa {t : S69} (h : stripT t = stripT ⟨1, wA, 0, 0⟩) : fitW wA t = true := by rw [fitW_strip h, fit_self (by rw [tl]; decide) (by rw [tl]; decide)]
theorem notW {t : S69} (h : t.f0 = 2) : fitW wW t = false := by
  cases h2 : fitW wW t with
  | false => rfl
  | true => rw [fWr] at h2; omega
theorem x35 : ¬ wX.toList = [35] := by rw [tl]; decide
theorem h35 : wH.toList = [35] := by rw [tl]; rfl
/-- The last time, and the end. -/
theorem lineK_last {k : Int} {t e : S69} {T : List S69} {ln fo : Int} {n : Int} (h0 : t.f0 = 2) (h2 : t.f2 = n) (hn : n ≠ 0) (he : ¬ (e.f0 ≠ 3 ∧ e.f0 ≠ 0)) : lineK k [wX] (t :: e :: T) ln fo = .ok (⟨k, ln, n⟩, T) := by
  rw [lineK, if_pos ((fX t).2 h0), if_pos h0, if_neg (by rw [h2]; exact hn), if_neg x35, if_neg x35, lineK, if_neg he, h2]
theorem lineK_for {k : Int} {t : S69} {T : List S69} {ws : List ByteArray} {ln fo : Int} (h : fitW wF t = true) : lineK k (wF :: ws) (t :: T) ln fo = lineK k ws T ln fo := by
  have h1 : t.f0 = 1 := ((fitW_word (w := wF) (by rw [tl]; decide) (by rw [tl]; decide) t).1 h).1
  rw [lineK, if_pos h, if_neg (by omega)]
theorem lineK_after {k : Int} {t : S69} {T : List S69} {ws : List ByteArray} {ln fo : Int} (h : fitW wA t = true) : lineK k (wA :: ws) (t :: T) ln fo = lineK k ws T ln fo := by
  have h1 : t.f0 = 1 := ((fitW_word (w := wA) (by rw [tl]; decide) (by rw [tl]; decide) t).1 h).1
  rw [lineK, if_pos h, if_neg (by omega)]
theorem lineK_hash {k : Int} {t : S69} {T : List S69} {ws : List ByteArray} {ln fo n : Int} (h0 : t.f0 = 2) (h2 : t.f2 = n) (hn : n ≠ 0) : lineK k (wH :: ws) (t :: T) ln fo = lineK k ws T n fo := by
  rw [lineK, if_pos ((fH t).2 h0), if_pos h0, if_neg (by rw [h2]; exact hn), if_pos h35, if_pos h35, h2]
theorem line_parse {r : S46} (hr : rightB r.f0 r.f1 r.f2 = true) {T : List S69} (hT : T.map stripT = (itemsT r).map stripT) {e : S69} (he : ¬ (e.f0 ≠ 3 ∧ e.f0 ≠ 0)) (T' : List S69) : ∃ t T1, T ++ e :: T' = t :: T1 ∧ (t.f0 ≠ 3 ∧ t.f0 ≠ 0) ∧ lineS (t :: T1) = .ok (r, T') := by
  obtain ⟨⟨x1, x2⟩, hx⟩ := rightB_times hr
  have hr' : r = ⟨r.f0, r.f1, r.f2⟩ := rfl
  rcases items_kind hr with ⟨k, k1, ei⟩ | ⟨k, ei⟩ | ⟨k, ei⟩ | ⟨k, k1, ei⟩ <;> rw [ei] at hT
  · have hlen : T.length = 4 := by have := congrArg List.length hT; simpa using this
    match T, hlen, hT with
    | [t0, t1, t2, t3], _, hT =>
      simp only [List.map_cons, List.map_nil, List.cons.injEq, and_true] at hT
      obtain ⟨e0, e1, e2, e3⟩ := hT
      refine ⟨t0, _, rfl, by rw [(strip_f e0).1]; simp, ?_⟩
      rw [lineS, if_pos (fe e0)]
      show lineE (t1 :: t2 :: t3 :: e :: T') = _
      rw [lineE, if_pos (fw e1), lineK_for (ff e2), lineK_last (strip_f e3).1 (strip_f e3).2 (by show r.f2 ≠ 0; omega) he]
      show Except.ok ((⟨1, 0, r.f2⟩ : S46), T') = _
      rw [← k, ← k1]
  · have hlen : T.length = 4 := by have := congrArg List.length hT; simpa using this
    match T, hlen, hT with
    | [t0, t1, t2, t3], _, hT =>
      simp only [List.map_cons, List.map_nil, List.cons.injEq, and_true] at hT
      obtain ⟨e0, e1, e2, e3⟩ := hT
      have q1 : t1.f0 = 2 := (strip_f e1).1
      have q2 : t1.f2 = r.f1 := (strip_f e1).2
      refine ⟨t0, _, rfl, by rw [(strip_f e0).1]; simp, ?_⟩
      rw [lineS, if_pos (fe e0)]
      show lineE (t1 :: t2 :: t3 :: e :: T') = _
      rw [lineE, if_neg (by rw [notW q1]; decide), if_pos q1, if_neg (by rw [q2]; omega), q2, lineK_for (ff e2), lineK_last (strip_f e3).1 (strip_f e3).2 (by show r.f2 ≠ 0; omega) he]
      show Except.ok ((⟨2, r.f1, r.f2⟩ : S46), T') = _
      rw [← k]
  · have hlen : T.length = 4 := by have := congrArg List.length hT; simpa using this
    match T, hlen, hT with
    | [t0, t1, t2, t3], _, hT =>
      simp only [List.map_cons, List.map_nil, List.cons.injEq, and_true] at hT
      obtain ⟨e0, e1, e2, e3⟩ := hT
      have q1 : t1.f0 = 2 := (strip_f e1).1
      have q2 : t1.f2 = r.f1 := (strip_f e1).2
      refine ⟨t0, _, rfl, by rw [(strip_f e0).1]; simp, ?_⟩
      rw [lineS, if_neg (by rw [(fq e0).1]; decide), if_pos (fq e0).2]
      show lineK 3 [wH, wF, wX] (t1 :: t2 :: t3 :: e :: T') 0 0 = _
      rw [lineK_hash q1 q2 (by omega), lineK_for (ff e2), lineK_last (strip_f e3).1 (strip_f e3).2 (by show r.f2 ≠ 0; omega) he]
      show Except.ok ((⟨3, r.f1, r.f2⟩ : S46), T') = _
      rw [← k]
  · have hlen : T.length = 3 := by have := congrArg List.length hT; simpa using this
    match T, hlen, hT with
    | [t0, t1, t2], _, hT =>
      simp only [List.map_cons, List.map_nil, List.cons.injEq, and_true] at hT
      obtain ⟨e0, e1, e2⟩ := hT
      refine ⟨t0, _, rfl, by rw [(strip_f e0).1]; simp, ?_⟩
      rw [lineS, if_neg (by rw [(fn e0).1]; decide), if_neg (by rw [(fn e0).2.1]; decide), if_pos (fn e0).2.2]
      show lineK 4 [wA, wX] (t1 :: t2 :: e :: T') 0 0 = _
      rw [lineK_after (fa e1), lineK_last (strip_f e2).1 (strip_f e2).2 (by show r.f2 ≠ 0; omega) he]
      show Except.ok ((⟨4, 0, r.f2⟩ : S46), T') = _
      rw [← k, ← k1]
theorem run_rule {r : S46} (hr : rightB r.f0 r.f1 r.f2 = true) {T : List S69} (hT : T.map stripT = (itemsT r).map stripT) {e : S69} (he : ¬ (e.f0 ≠ 3 ∧ e.f0 ≠ 0)) {T' : List S69} (hE : ending (T ++ e :: T')) (out : List S46) (ho : out.length < 16) : runP (T ++ e :: T') ⟨0, 0, 0, 0, out⟩ = runP T' ⟨0, 0, 0, 0, out ++ [r]⟩ := by
  obtain ⟨t, T1, e1, h1, h2⟩ := line_parse hr hT he T'
  rw [e1] at hE ⊢
  rw [run_line hE h1 out ho, h2]
  rfl

/-! ### many lines -/
def toksL : List S46 → Nat → List S69
  | [], a => [⟨0, ofL [], 0, (a : Int)⟩]
  | r :: l, a => placeI (itemsT r) a ++ ⟨3, ofL [], 0, ((a + (joinI (itemsT r)).length : Nat) : Int)⟩ :: toksL l (a + (lineT r).length)
def allR (l : List S46) : Prop := ∀ r ∈ l, rightB r.f0 r.f1 r.f2 = true
theorem lex_lines : ∀ (l : List S46) (a : Nat), allR l → lexT (l.flatMap lineT) a = .ok (toksL l a)
  | [], a, _ => lexT_nil a
  | r :: l, a, h => by
    have hr := h r (.head _)
    rw [List.flatMap_cons, lineT_join, List.append_assoc]
    show lexT (joinI (itemsT r) ++ 10 :: l.flatMap lineT) a = _
    rw [lex_join 10 (.inr rfl) _ (itemsT r) a (items_ne r hr) (items_good hr), lexT_line 10 _ _ rfl, lex_lines l _ (fun x hx => h x (.tail _ hx))]
    have e : a + (joinI (itemsT r)).length + 1 = a + (lineT r).length := by rw [lineT_join]; simp; omega
    rw [e]
    rfl
theorem run_lines : ∀ (l : List S46) (a : Nat) (out : List S46), allR l → out.length + l.length ≤ 16 → runP (toksL l a) ⟨0, 0, 0, 0, out⟩ = .ok ⟨0, 0, 0, 0, out ++ l⟩
  | [], a, out, _, _ => by
    rw [toksL, runP, stepP, if_neg (by simp), if_pos rfl, List.append_nil]
    rfl
  | r :: l, a, out, h, hl => by
    simp only [List.length_cons] at hl
    have hE := lexT_ending _ _ _ (lex_lines (r :: l) a h)
    rw [toksL] at hE ⊢
    rw [run_rule (h r (.head _)) (placeI_strip _ a) (by simp) hE out (by omega), run_lines l _ _ (fun x hx => h x (.tail _ hx)) (by simp; omega)]
    simp
theorem parse_lines (l : List S46) (h : allR l) (hl : l.length ≤ 16) : parseS (ofL (l.flatMap lineT)) = (l, 0, 0) := by
  rw [parseS_lst, lst_ofL, lex_lines l 0 h]
  simp only
  rw [parseC_run, run_lines l 0 [] h (by simp; exact hl)]
  rfl
theorem all_allR {l : List S46} : (l.all fun r => rightB r.f0 r.f1 r.f2) = true ↔ allR l := List.all_eq_true
/-- A text that is told is read again. -/
theorem text_back (l : List S46) (h : (textS l).2 = 0) : parseS (textS l).1 = (l, 0, 0) ∧ allR l ∧ l.length ≤ 16 ∧ (textS l).1 = ofL (l.flatMap lineT) := by
  unfold textS at h ⊢
  by_cases h1 : l.length > 16
  · rw [if_pos h1] at h; cases h
  · rw [if_neg h1] at h ⊢
    by_cases h2 : (l.all fun r => rightB r.f0 r.f1 r.f2) = true
    · rw [if_pos h2]
      have h3 := all_allR.1 h2
      exact ⟨parse_lines l h3 (by omega), h3, by omega, rfl⟩
    · rw [if_neg h2] at h; cases h
theorem text_none (l : List S46) (h : (textS l).2 ≠ 0) : (textS l).1 = ofL [] := by
  unfold textS at h ⊢
  by_cases h1 : l.length > 16
  · rw [if_pos h1]
  · rw [if_neg h1] at h ⊢
    by_cases h2 : (l.all fun r => rightB r.f0 r.f1 r.f2) = true
    · rw [if_pos h2] at h; exact absurd rfl h
    · rw [if_neg h2]
theorem text_of (l : List S46) (h : allR l) (hl : l.length ≤ 16) : textS l = (ofL (l.flatMap lineT), 0) := by
  unfold textS
  rw [if_neg (by omega), if_pos (all_allR.2 h)]
theorem lines_len : ∀ (l : List S46), (l.flatMap lineT).length ≤ 49 * l.length
  | [] => by simp
  | r :: l => by
    rw [List.flatMap_cons, List.length_append, List.length_cons]
    have := lineT_len r
    have := lines_len l
    omega
theorem text_small (l : List S46) : (textS l).1.size ≤ 1000 := by
  rw [← lst_len]
  by_cases h : (textS l).2 = 0
  · obtain ⟨_, _, h1, h2⟩ := text_back l h
    rw [h2, lst_ofL]
    have := lines_len l
    omega
  · rw [text_none l h, lst_ofL]
    simp
end Go.Proofs.YtonlbeonblpblaaDoor.Pl
