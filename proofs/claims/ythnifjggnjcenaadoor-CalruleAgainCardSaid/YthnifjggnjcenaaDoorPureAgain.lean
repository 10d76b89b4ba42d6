/-
  The law CalruleAgain in plain Lean: it tells true of any text.
-/
import Derived.Test.YthnifjggnjcenaaDoorBackQ
import Derived.Test.YthnifjggnjcenaaDoorAllx29
namespace Go.Proofs.YthnifjggnjcenaaDoor.Pl
open Go.RowKit Go.Proofs.YthnifjggnjcenaaDoor.All Go.Proofs.YthnifjggnjcenaaDoorW.PrintWords
set_option linter.unusedVariables false
set_option linter.unusedSimpArgs false

/-! ### what is parsed is right -/
theorem ok_span {t : S46} (h : okT t) (h0 : t.f0 = 2) (h2 : t.f2 ≠ 0) : spanB t.f2 = true := by
  unfold spanB
  rw [decide_eq_true_eq]
  rcases h with ⟨h1, _⟩ | ⟨_, h1⟩ | h1
  · omega
  · omega
  · omega
def hasH (ws : List ByteArray) : Prop := ∃ w ∈ ws, w.toList = [35]
def hasX (ws : List ByteArray) : Prop := ∃ w ∈ ws, w.toList = [33]
theorem lineK_right (k : Int) : ∀ (ws : List ByteArray) (T : List S46) (ln fo : Int) (r : S33) (T' : List S46), ending T → lineK k ws T ln fo = .ok (r, T') →
    r.f0 = k ∧ (hasH ws → spanB r.f1 = true) ∧ (¬ hasH ws → r.f1 = ln) ∧ (hasX ws → spanB r.f2 = true) ∧ (¬ hasX ws → r.f2 = fo) ∧ (T' = [] ∨ ending T') ∧ T'.length < T.length
  | ws, [], ln, fo, r, T', hT, h => by
    obtain ⟨M, e, h1, _⟩ := hT
    simp at h1
  | [], t :: T, ln, fo, r, T', hT, h => by
    rw [lineK] at h
    split at h
    · cases h
    · rename_i hs
      obtain ⟨rfl, rfl⟩ := Prod.mk.inj (Except.ok.inj h)
      refine ⟨rfl, (fun ⟨w, hw, _⟩ => by cases hw), (fun _ => rfl), (fun ⟨w, hw, _⟩ => by cases hw), (fun _ => rfl), ?_, by simp⟩
      by_cases h0 : t.f0 = 0
      · left
        obtain ⟨M, e, h1, he, hM⟩ := hT
        cases M with
        | nil =>
          simp only [List.nil_append, List.cons.injEq] at h1
          exact h1.2
        | cons x M =>
          simp only [List.cons_append, List.cons.injEq] at h1
          have hx := hM x (.head _)
          rw [← h1.1] at hx
          rcases hx with hx | hx | hx <;> omega
      · exact .inr (ending_tail hT h0)
  | w :: ws, t :: T, ln, fo, r, T', hT, h => by
    rw [lineK] at h
    by_cases hf : fitW w t = true
    · rw [if_pos hf] at h
      have ht0 : t.f0 ≠ 0 := fun h0 => by
        rw [fitW_end (by omega)] at hf
        cases hf
      have hT1 := ending_tail hT ht0
      have hok : okT t := by
        obtain ⟨M, e, h1, he, hM⟩ := hT
        cases M with
        | nil =>
          simp only [List.nil_append, List.cons.injEq] at h1
          rw [← h1.1] at he
          exact absurd he ht0
        | cons x M =>
          simp only [List.cons_append, List.cons.injEq] at h1
          rw [h1.1]
          exact hM x (.head _)
      by_cases h2 : t.f0 = 2
      · rw [if_pos h2] at h
        by_cases h3 : t.f2 = 0
        · rw [if_pos h3] at h; cases h
        · rw [if_neg h3] at h
          have hsp := ok_span hok h2 h3
          obtain ⟨i1, i2, i3, i4, i5, i6, i7⟩ := lineK_right k ws T _ _ r T' hT1 h
          by_cases h35 : w.toList = [35]
          · rw [if_pos h35] at i3
            rw [if_pos h35] at i5
            refine ⟨i1, fun _ => ?_, fun hn => absurd ⟨w, .head _, h35⟩ hn, fun ⟨x, hx, hx3⟩ => ?_, fun hn => i5 (fun ⟨x, hx, hx3⟩ => hn ⟨x, .tail _ hx, hx3⟩), i6, by simp; omega⟩
            · by_cases hh : hasH ws
              · exact i2 hh
              · rw [i3 hh]; exact hsp
            · rcases List.mem_cons.1 hx with rfl | hx
              · rw [h35] at hx3; cases hx3
              · exact i4 ⟨x, hx, hx3⟩
          · rw [if_neg h35] at i3
            rw [if_neg h35] at i5
            refine ⟨i1, fun ⟨x, hx, hx3⟩ => ?_, fun hn => i3 (fun ⟨x, hx, hx3⟩ => hn ⟨x, .tail _ hx, hx3⟩), fun _ => ?_, fun hn => ?_, i6, by simp; omega⟩
            · rcases List.mem_cons.1 hx with rfl | hx
              · exact absurd hx3 h35
              · exact i2 ⟨x, hx, hx3⟩
            · by_cases hh : hasX ws
              · exact i4 hh
              · rw [i5 hh]; exact hsp
            · exfalso
              have : w.toList = [33] := by
                unfold fitW at hf
                rw [if_neg h35] at hf
                split at hf
                · assumption
                · rw [if_neg (by omega)] at hf; cases hf
              exact hn ⟨w, .head _, this⟩
      · rw [if_neg h2] at h
        obtain ⟨i1, i2, i3, i4, i5, i6, i7⟩ := lineK_right k ws T _ _ r T' hT1 h
        have nt : w.toList ≠ [35] ∧ w.toList ≠ [33] := by
          constructor
          · intro h'; exact h2 ((fitW_time (.inl h') t).1 hf)
          · intro h'; exact h2 ((fitW_time (.inr h') t).1 hf)
        refine ⟨i1, fun ⟨x, hx, hx3⟩ => ?_, fun hn => i3 (fun ⟨x, hx, hx3⟩ => hn ⟨x, .tail _ hx, hx3⟩), fun ⟨x, hx, hx3⟩ => ?_, fun hn => i5 (fun ⟨x, hx, hx3⟩ => hn ⟨x, .tail _ hx, hx3⟩), i6, by simp; omega⟩
        · rcases List.mem_cons.1 hx with rfl | hx
          · exact absurd hx3 nt.1
          · exact i2 ⟨x, hx, hx3⟩
        · rcases List.mem_cons.1 hx with rfl | hx
          · exact absurd hx3 nt.2
          · exact i4 ⟨x, hx, hx3⟩
    · rw [if_neg hf] at h; cases h
theorem x33 : wX.toList = [33] := by rw [tl]; rfl
theorem hxFX : hasX [wF, wX] := ⟨wX, by simp, x33⟩
theorem nhFX : ¬ hasH [wF, wX] := by
  rintro ⟨w, hw, h⟩
  simp only [List.mem_cons, List.not_mem_nil, or_false] at hw
  rcases hw with rfl | rfl
  · rw [tl] at h; revert h; decide
  · rw [tl] at h; revert h; decide
theorem line_right {T : List S46} (hT : ending T) {r : S33} {T' : List S46} (h : lineS T = .ok (r, T')) : rightB r.f0 r.f1 r.f2 = true ∧ (T' = [] ∨ ending T') ∧ T'.length < T.length := by
  cases T with
  | nil => cases h
  | cons t T =>
    rw [lineS] at h
    have hz : ∀ {w : ByteArray}, fitW w t = true → ending T := fun {w} hf => ending_tail hT (fun h0 => by rw [fitW_end (by omega)] at hf; cases hf)
    by_cases hE : fitW wE t = true
    · rw [if_pos hE] at h
      have hT1 := hz hE
      cases T with
      | nil => cases h
      | cons t1 T1 =>
        rw [lineE] at h
        by_cases hW : fitW wW t1 = true
        · rw [if_pos hW] at h
          have hT2 : ending T1 := ending_tail hT1 (fun h0 => by rw [fitW_end (by omega)] at hW; cases hW)
          obtain ⟨i1, i2, i3, i4, i5, i6, i7⟩ := lineK_right 1 _ _ _ _ r T' hT2 h
          refine ⟨?_, i6, by simp; omega⟩
          unfold rightB
          rw [if_pos (.inl i1), i4 hxFX, i3 nhFX]
          rfl
        · rw [if_neg hW] at h
          by_cases h2 : t1.f0 = 2
          · rw [if_pos h2] at h
            by_cases h3 : t1.f2 = 0
            · rw [if_pos h3] at h; cases h
            · rw [if_neg h3] at h
              have hT2 : ending T1 := ending_tail hT1 (by omega)
              obtain ⟨i1, i2, i3, i4, i5, i6, i7⟩ := lineK_right 2 _ _ _ _ r T' hT2 h
              refine ⟨?_, i6, by simp; omega⟩
              have hok : okT t1 := by
                obtain ⟨M, e, h1, he, hM⟩ := hT1
                cases M with
                | nil =>
                  simp only [List.nil_append, List.cons.injEq] at h1
                  rw [← h1.1] at he
                  omega
                | cons x M =>
                  simp only [List.cons_append, List.cons.injEq] at h1
                  rw [h1.1]
                  exact hM x (.head _)
              unfold rightB
              rw [if_neg (by omega), if_pos (.inl i1), i4 hxFX, i3 nhFX, ok_span hok h2 h3]
              rfl
          · rw [if_neg h2] at h; cases h
    · rw [if_neg hE] at h
      by_cases hQ : fitW wQ t = true
      · rw [if_pos hQ] at h
        obtain ⟨i1, i2, i3, i4, i5, i6, i7⟩ := lineK_right 3 _ _ _ _ r T' (hz hQ) h
        refine ⟨?_, i6, by simp; omega⟩
        unfold rightB
        rw [if_neg (by omega), if_pos (.inr i1), i4 ⟨wX, by simp, x33⟩, i2 ⟨wH, by simp, h35⟩]
        rfl
      · rw [if_neg hQ] at h
        by_cases hN : fitW wN t = true
        · rw [if_pos hN] at h
          obtain ⟨i1, i2, i3, i4, i5, i6, i7⟩ := lineK_right 4 _ _ _ _ r T' (hz hN) h
          refine ⟨?_, i6, by simp; omega⟩
          have nh : ¬ hasH [wA, wX] := by
            rintro ⟨w, hw, h⟩
            simp only [List.mem_cons, List.not_mem_nil, or_false] at hw
            rcases hw with rfl | rfl
            · rw [tl] at h; revert h; decide
            · rw [tl] at h; revert h; decide
          unfold rightB
          rw [if_pos (.inr i1), i4 ⟨wX, by simp, x33⟩, i3 nh]
          rfl
        · rw [if_neg hN] at h; cases h
theorem run_right : ∀ (n : Nat) (L : List S46) (out : List S33) (s : PS), L.length ≤ n → (L = [] ∨ ending L) → runP L ⟨0, 0, 0, 0, out⟩ = .ok s → allR out → allR s.out := by
  intro n
  induction n with
  | zero =>
    intro L out s hn _ h ha
    obtain rfl := List.eq_nil_of_length_eq_zero (Nat.le_zero.1 hn)
    rw [← Except.ok.inj h]
    exact ha
  | succ n ih =>
    intro L out s hn hE h ha
    cases L with
    | nil =>
      rw [← Except.ok.inj h]
      exact ha
    | cons t T =>
      simp only [List.length_cons] at hn
      have hE' : ending (t :: T) := hE.resolve_left (by simp)
      by_cases h1 : t.f0 ≠ 3 ∧ t.f0 ≠ 0
      · by_cases ho : out.length < 16
        · rw [run_line hE' h1 out ho] at h
          cases hl : lineS (t :: T) with
          | error x => rw [hl] at h; cases h
          | ok x =>
            obtain ⟨r, T'⟩ := x
            rw [hl] at h
            obtain ⟨j1, j2, j3⟩ := line_right hE' hl
            simp only [List.length_cons] at j3
            refine ih T' (out ++ [r]) s (by omega) j2 h (fun x hx => ?_)
            rcases List.mem_append.1 hx with hx | hx
            · exact ha x hx
            · rw [List.mem_singleton.1 hx]; exact j1
        · rw [runP, stepP, if_pos h1, if_pos ⟨rfl, by simp only; omega⟩] at h
          cases h
      · rw [runP, stepP, if_neg h1, if_pos rfl] at h
        refine ih T out s (by omega) ?_ h ha
        by_cases h0 : t.f0 = 0
        · left
          obtain ⟨M, e, h2, he, hM⟩ := hE'
          cases M with
          | nil =>
            simp only [List.nil_append, List.cons.injEq] at h2
            exact h2.2
          | cons x M =>
            simp only [List.cons_append, List.cons.injEq] at h2
            have hx := hM x (.head _)
            rw [← h2.1] at hx
            rcases hx with hx | hx | hx <;> omega
        · exact .inr (ending_tail hE' h0)
theorem run_place : ∀ (T : List S46) (s : PS) {x : Int × Int}, runP T s = .error x → ∃ t ∈ T, x.1 = t.f3
  | [], s, x, h => by cases h
  | t :: T, s, x, h => by
    rw [runP] at h
    cases hs : stepP s t with
    | error e =>
      rw [hs] at h
      rw [← Except.error.inj h]
      exact ⟨t, .head _, rfl⟩
    | ok s1 =>
      rw [hs] at h
      obtain ⟨u, hu, e⟩ := run_place T s1 h
      exact ⟨u, .tail _ hu, e⟩
theorem lexT_err : ∀ (l : List UInt8) (a j : Nat), lexT l a = .error j → j ≤ a + l.length := by
  have map_err : ∀ {t : S46} {X : Except Nat (List S46)} {j : Nat}, X.map (fun l => t :: l) = .error j → X = .error j := fun {t X j} h => by
    cases X with
    | error i => exact congrArg Except.error (Except.error.inj h)
    | ok L => cases h
  refine lex_ind ?_ ?_ ?_ ?_ ?_ ?_
  · intro a j h
    rw [lexT_nil] at h
    cases h
  · intro c r hc ih a j h
    rw [lexT_blank c r a hc] at h
    have := ih _ _ h
    simp only [List.length_cons]
    omega
  · intro c r hc ih a j h
    rw [lexT_line c r a hc] at h
    have := ih _ _ (map_err h)
    simp only [List.length_cons]
    omega
  · intro c r hc ih a j h
    rw [lexT_word c r a hc] at h
    have := ih _ _ (map_err h)
    have hl := congrArg List.length (List.takeWhile_append_dropWhile (p := fun x => isLet (ch x)) (l := c :: r))
    rw [List.length_append] at hl
    omega
  · intro c r hc ih a j h
    rw [lexT_time c r a hc] at h
    split at h
    · have := ih _ _ (map_err h)
      have hl := congrArg List.length (List.takeWhile_append_dropWhile (p := fun x => isBoth (ch x)) (l := c :: r))
      rw [List.length_append] at hl
      omega
    · have := Except.error.inj h
      omega
  · intro c r h1 h2 h3 h4 a j h
    rw [lexT_other c r a h1 h2 h3 h4] at h
    have := Except.error.inj h
    omega
theorem parse_facts (s : ByteArray) : (∃ l, parseS s = (l, 0, 0) ∧ l.length ≤ 16 ∧ allR l) ∨ (∃ (p : Nat) (e : Int), parseS s = ([], (p : Int), e) ∧ e ≠ 0 ∧ p ≤ s.size) := by
  rw [parseS_lst]
  cases hX : lexT (lst s) 0 with
  | error j =>
    refine .inr ⟨j, _, rfl, by decide, ?_⟩
    have := lexT_err (lst s) 0 j hX
    rw [lst_len] at this
    omega
  | ok L =>
    simp only
    rw [parseC_run]
    have hE := lexT_ending _ _ _ hX
    cases hr : runP L ⟨0, 0, 0, 0, []⟩ with
    | ok s' => exact .inl ⟨s'.out, rfl, runP_few L _ s' (by simp) (fun h => absurd rfl h) hr, run_right L.length L [] s' (Nat.le_refl _) (.inr hE) hr (fun r hr => by cases hr)⟩
    | error x =>
      obtain ⟨t, ht, e⟩ := run_place L _ hr
      obtain ⟨b1, b2, b3⟩ := lexT_bounds _ _ _ hX
      obtain ⟨p, e2, h1, h2⟩ := b3 t ht
      rw [lst_len] at h2
      refine .inr ⟨p, x.2, ?_, run_err L _ hr, by omega⟩
      show (([] : List S33), x.1, x.2) = _
      rw [e, e2]
theorem right_loop (l : List S33) (hl : l.length ≤ 16) (h : allR l) : ∀ d i : Nat, i + d = l.length → Ev (fun k => erewhilelaw34_CalruleAgain.l0 k l (i : Int)) true
  | 0, i, hi => by
    obtain rfl : i = l.length := by omega
    refine ev_succ ?_
    have h1 : ¬ (l.length : Int) < (l.length : Int) := by omega
    simp only [erewhilelaw34_CalruleAgain.l0, if_neg h1]
    have ht := text_of l h hl
    refine Ev.bind (texts_ev l) ?_
    have hs := text_small l
    refine Ev.bind (parse_ev _ (by omega)) ?_
    have hp := (text_back l (by rw [ht])).1
    rw [hp, ht]
    have c1 : decide ((l.length : Int) ≤ 16) = true := decide_eq_true (by omega)
    simp only [if_true, c1]
    exact Ev.bind (same_ev l (by omega)) ev_some
  | d + 1, i, hi => by
    have ih := right_loop l hl h d (i + 1) (by omega)
    refine ev_succ ?_
    have h1 : (i : Int) < (l.length : Int) := by omega
    have h0 : (0 : Int) ≤ (i : Int) := by omega
    have hr := h l[i] (List.getElem_mem _)
    simp only [erewhilelaw34_CalruleAgain.l0, if_pos h1, if_pos h0, rd33_is l i (by omega), wrap_succ i (by omega)]
    refine Ev.bind (right_ev _ _ _) ?_
    simp only [hr, if_true]
    exact ih
theorem again_pure (s : ByteArray) (_hs : s.size ≤ 140737488351232) : Ev (fun k => erewhilelaw34_CalruleAgain.f k s) true := by
  simp only [erewhilelaw34_CalruleAgain.f]
  refine Ev.bind awake_ev ?_
  simp only [if_true]
  refine ev_succ ?_
  by_cases h : (s.size : Int) > 400
  · simp only [erewhilelaw34_CalruleAgain.j0, decide_eq_true h, if_true]
    exact Ev.bind awake_ev ev_some
  · simp only [erewhilelaw34_CalruleAgain.j0, decide_eq_false h, Bool.false_eq_true, if_false]
    refine Ev.bind (parse_ev s (by omega)) ?_
    rcases parse_facts s with ⟨l, e, hl, hr⟩ | ⟨p, x, e, hx, hp⟩
    · rw [e]
      simp only [if_true]
      exact right_loop l hl hr l.length 0 (by omega)
    · rw [e]
      have c1 : (p : Int) ≥ 0 := by omega
      have c2 : (p : Int) ≤ (s.size : Int) := by omega
      simp only [if_neg hx, if_pos c1, if_pos c2]
      exact ev_some
end Go.Proofs.YthnifjggnjcenaaDoor.Pl
