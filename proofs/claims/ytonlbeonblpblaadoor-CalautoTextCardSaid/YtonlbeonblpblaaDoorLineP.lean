/-
  calrule.Parse in plain Lean: what it answers of a text, and of a line. No condition but the size.
-/
import Derived.Test.YtonlbeonblpblaaDoorLexI
import Derived.Test.YtonlbeonblpblaaDoorParse
/-! ## calrule.Parse in plain Lean: what it answers of a text; the document's examples; how the tokens of two texts go on. No condition but the size. -/
namespace Go.Proofs.YtonlbeonblpblaaDoor.Pl
open Go.RowKit Go.Proofs.YtonlbeonblpblaaDoor.All Go.Proofs.YtonlbeonblpblaaDoorW.PrintWords
set_option linter.unusedVariables false
set_option linter.unusedSimpArgs false

def parseOut (x : List S69 × Int × Int) : List S46 × Int × Int := if x.2.2 = 0 then parseC x.1 0 0 0 0 [] else ([], x.2.1, x.2.2)
def parseS (s : ByteArray) : List S46 × Int × Int := parseOut (lexS s)
theorem parse_ev (s : ByteArray) (hs : s.size ≤ 100000) : Ev (fun k => calrule_Parse.f k s) (parseS s) := by
  simp only [calrule_Parse.f]
  refine Ev.bind (lex_ev s hs) ?_
  unfold parseS parseOut
  by_cases h : (lexS s).2.2 = 0
  · simp only [if_pos h]; exact ev_some
  · simp only [if_neg h]; exact ev_some
/-- Where Lex fails, so does Parse, there; else the tokens are parsed. -/
theorem parseS_lst (s : ByteArray) : parseS s = match lexT (lst s) 0 with | .ok L => parseC L 0 0 0 0 [] | .error j => ([], (j : Int), 17) := by
  unfold parseS parseOut
  rw [lexS_lst]
  cases lexT (lst s) 0 with
  | ok L => simp [outL]
  | error j => simp [outL]

/-! ### the tokens of a text -/
/-- A word, a time, a line's end, the end. -/
def okT (t : S69) : Prop := (t.f0 = 1 ∧ (∀ c ∈ lst t.f1, isLet (ch c) = true)) ∨ (t.f0 = 2 ∧ 0 ≤ t.f2 ∧ t.f2 ≤ 1073741824) ∨ t.f0 = 3
/-- Tokens, and the end behind them. -/
def ending (L : List S69) : Prop := ∃ M e, L = M ++ [e] ∧ e.f0 = 0 ∧ ∀ t ∈ M, okT t
theorem ending_cons {t : S69} {L : List S69} (ht : okT t) (h : ending L) : ending (t :: L) := by
  obtain ⟨M, e, rfl, he, hM⟩ := h
  exact ⟨t :: M, e, rfl, he, fun u hu => (List.mem_cons.1 hu).elim (fun e => e ▸ ht) (fun hu => hM u hu)⟩
theorem minL_nn (ok : Bool) : ∀ (l : List UInt8) (n m : Int), 0 ≤ n → minL ok l n = some m → 0 ≤ m
  | [], n, m, h0, h => by
    obtain rfl := Option.some.inj h
    exact h0
  | c :: r, n, m, h0, h => by
    rw [minL] at h
    split at h
    · split at h
      · rename_i hd
        split at h
        · cases h
        · have hd' : 48 ≤ ch c ∧ ch c ≤ 57 := by simpa [isDig] using hd
          exact minL_nn ok r _ m (by omega) h
      · cases h
    · cases h
theorem minuL_range (l : List UInt8) (h : (minuL l).2 = true) : 0 ≤ (minuL l).1 ∧ (minuL l).1 ≤ 1073741824 := by
  unfold minuL at h ⊢
  cases hg : l.getLast? with
  | none => rw [hg] at h; simp at h
  | some u =>
    cases hh : l.head? with
    | none => rw [hg, hh] at h; simp at h
    | some c =>
      rw [hg, hh] at h
      simp only at h ⊢
      by_cases c1 : l.length < 2
      · rw [if_pos c1] at h; simp at h
      · rw [if_neg c1] at h ⊢
        by_cases c2 : ch c = 48 ∧ 2 < l.length
        · rw [if_pos c2] at h; simp at h
        · rw [if_neg c2] at h ⊢
          cases hm : minL (isUnit (ch u)) l.dropLast 0 with
          | none => rw [hm] at h; simp [minEnd] at h
          | some m =>
            rw [hm] at h
            have h0 := minL_nn _ _ _ m (by omega) hm
            have hu := unit_range (ch u)
            unfold minEnd at h ⊢
            simp only at h ⊢
            by_cases c3 : isUnit (ch u) = true
            · rw [if_pos c3] at h ⊢
              by_cases c4 : m * unit (ch u) > 1073741824
              · rw [if_pos c4] at h; simp at h
              · rw [if_neg c4]
                exact ⟨Int.mul_nonneg h0 hu.1, by show m * unit (ch u) ≤ _; omega⟩
            · rw [if_neg c3] at h; simp at h
theorem lexT_ending : ∀ (l : List UInt8) (a : Nat) (L : List S69), lexT l a = .ok L → ending L := by
  refine lex_ind ?_ ?_ ?_ ?_ ?_ ?_
  · intro a L h
    rw [lexT_nil] at h
    obtain rfl := Except.ok.inj h
    exact ⟨[], _, rfl, rfl, fun t ht => by cases ht⟩
  · intro c r hc ih a L h
    rw [lexT_blank c r a hc] at h
    exact ih _ _ h
  · intro c r hc ih a L h
    rw [lexT_line c r a hc] at h
    obtain ⟨M, hM, rfl⟩ := map_ok h
    exact ending_cons (.inr (.inr rfl)) (ih _ _ hM)
  · intro c r hc ih a L h
    rw [lexT_word c r a hc] at h
    obtain ⟨M, hM, rfl⟩ := map_ok h
    refine ending_cons (.inl ⟨rfl, fun x hx => ?_⟩) (ih _ _ hM)
    rw [lst_ofL] at hx
    exact run_all (fun x => isLet (ch x)) _ x hx
  · intro c r hc ih a L h
    rw [lexT_time c r a hc] at h
    split at h
    · rename_i hm
      obtain ⟨M, hM, rfl⟩ := map_ok h
      exact ending_cons (.inr (.inl ⟨rfl, minuL_range _ hm⟩)) (ih _ _ hM)
    · cases h
  · intro c r h1 h2 h3 h4 a L h
    rw [lexT_other c r a h1 h2 h3 h4] at h
    cases h

/-! ### step by step -/
structure PS where
  c : Int
  a : Nat
  ln : Int
  fo : Int
  out : List S46
def stepP (s : PS) (t : S69) : Except Int PS :=
  if t.f0 ≠ 3 ∧ t.f0 ≠ 0 then
    if s.a = 0 ∧ 16 ≤ s.out.length then .error 6
    else if nextE (pOf s.c) s.a t = 0 then .ok ⟨nextC s.c t, s.a + 1, nextLn (pOf s.c) s.a t s.ln, nextFo (pOf s.c) s.a t s.fo, s.out⟩
    else .error (nextE (pOf s.c) s.a t)
  else if s.a = 0 then .ok s
  else match wholeK (pOf s.c) s.a with
    | none => .error 3
    | some k => .ok ⟨0, 0, 0, 0, s.out ++ [⟨k, s.ln, s.fo⟩]⟩
def runP : List S69 → PS → Except (Int × Int) PS
  | [], s => .ok s
  | t :: r, s => match stepP s t with | .error e => .error (t.f3, e) | .ok s' => runP r s'
def outP : Except (Int × Int) PS → List S46 × Int × Int
  | .error (p, e) => ([], p, e)
  | .ok s => (s.out, 0, 0)
theorem parseC_run : ∀ (T : List S69) (c : Int) (a : Nat) (ln fo : Int) (out : List S46), parseC T c a ln fo out = outP (runP T ⟨c, a, ln, fo, out⟩)
  | [], c, a, ln, fo, out => rfl
  | t :: r, c, a, ln, fo, out => by
    rw [parseC, runP, stepP]
    simp only
    by_cases h1 : t.f0 ≠ 3 ∧ t.f0 ≠ 0
    · rw [if_pos h1, if_pos h1]
      by_cases h2 : a = 0 ∧ 16 ≤ out.length
      · rw [if_pos h2, if_pos h2]; rfl
      · rw [if_neg h2, if_neg h2]
        by_cases h3 : nextE (pOf c) a t = 0
        · rw [if_pos h3, if_pos h3]
          exact parseC_run r _ _ _ _ _
        · rw [if_neg h3, if_neg h3]; rfl
    · rw [if_neg h1, if_neg h1]
      by_cases h2 : a = 0
      · rw [if_pos h2, if_pos h2]
        exact parseC_run r _ _ _ _ _
      · rw [if_neg h2, if_neg h2]
        cases wholeK (pOf c) a with
        | none => rfl
        | some k => exact parseC_run r _ _ _ _ _
theorem runP_append : ∀ (A B : List S69) (s : PS), runP (A ++ B) s = match runP A s with | .error e => .error e | .ok s' => runP B s'
  | [], B, s => rfl
  | t :: r, B, s => by
    rw [List.cons_append, runP, runP]
    cases stepP s t with
    | error e => rfl
    | ok s' => exact runP_append r B s'
/-- Where they stand plays no part but in the place that is told. -/
theorem stepP_strip (s : PS) {t u : S69} (h : stripT t = stripT u) : stepP s t = stepP s u := by
  obtain ⟨t0, t1, t2, t3⟩ := t
  obtain ⟨u0, u1, u2, u3⟩ := u
  simp only [stripT, S69.mk.injEq] at h
  obtain ⟨rfl, rfl, rfl, _⟩ := h
  rfl
theorem runP_strip : ∀ {T U : List S69} (s : PS), T.map stripT = U.map stripT → ∀ s', runP T s = .ok s' → runP U s = .ok s'
  | [], [], s, _, s', h => h
  | [], u :: U, s, h, s', _ => by cases h
  | t :: T, [], s, h, s', _ => by cases h
  | t :: T, u :: U, s, h, s', hr => by
    rw [List.map_cons, List.map_cons, List.cons.injEq] at h
    rw [runP] at hr ⊢
    rw [← stepP_strip s h.1]
    cases hs : stepP s t with
    | error e => rw [hs] at hr; cases hr
    | ok s1 =>
      rw [hs] at hr
      exact runP_strip s1 h.2 s' hr

/-! ### one kind -/
theorem fitsP_at {k : Int} {a : Nat} {w : ByteArray} (h : (wordL k)[a]? = some w) (t : S69) : fitsP k a t = fitW w t := by
  unfold fitsP
  rw [h]
theorem leftP_single {k : Int} (hk : k = 1 ∨ k = 2 ∨ k = 3 ∨ k = 4) (a : Nat) (t : S69) (z : Int) : leftP (pOf k) a t z = ((z == k) && fitsP k a t) := by
  unfold leftP
  rw [pOfS hk]
  by_cases hz : z = k
  · rw [hz]
  · show ((z == k) && fitsP z a t) = ((z == k) && fitsP k a t)
    rw [beq_eq_false_iff_ne.2 hz]; rfl
theorem any_single {k : Int} (hk : k = 1 ∨ k = 2 ∨ k = 3 ∨ k = 4) (b : Bool) : anyP (fun z => (z == k) && b) = b := by
  rcases hk with rfl | rfl | rfl | rfl <;> cases b <;> rfl
theorem nextE_single {k : Int} (hk : k = 1 ∨ k = 2 ∨ k = 3 ∨ k = 4) (a : Nat) (t : S69) : nextE (pOf k) a t = if fitsP k a t = true then if t.f0 = 2 then if t.f2 = 0 then 2 else 0 else 0 else 3 := by
  have e : leftP (pOf k) a t = fun z => (z == k) && fitsP k a t := funext (leftP_single hk a t)
  unfold nextE
  rw [e, any_single hk]
theorem long_single {k : Int} (hk : k = 1 ∨ k = 2 ∨ k = 3 ∨ k = 4) (a : Nat) (t : S69) : longP (pOf k) a t = (fitsP k a t && hashP k a) := by
  have e : (fun z => leftP (pOf k) a t z && hashP z a) = fun z => (z == k) && (fitsP k a t && hashP k a) := funext fun z => by
    rw [leftP_single hk a t z]
    by_cases hz : z = k
    · rw [hz, beq_self_eq_true, Bool.true_and, Bool.true_and]
    · rw [beq_eq_false_iff_ne.2 hz]; rfl
  unfold longP
  rw [e, any_single hk]
theorem nextC_single {k : Int} (hk : k = 1 ∨ k = 2 ∨ k = 3 ∨ k = 4) (t : S69) : nextC k t = k := by
  unfold nextC
  rw [if_neg (by omega), if_neg (by omega)]
/-- What a line of kind k is on its way to, from a place on: its rule, and the rest; or an error. -/
def lineK (k : Int) : List ByteArray → List S69 → Int → Int → Except (S69 × Int) (S46 × List S69)
  | [], t :: T, ln, fo => if t.f0 ≠ 3 ∧ t.f0 ≠ 0 then .error (t, 3) else .ok (⟨k, ln, fo⟩, T)
  | w :: ws, t :: T, ln, fo => if fitW w t = true then if t.f0 = 2 then if t.f2 = 0 then .error (t, 2) else lineK k ws T (if w.toList = [35] then t.f2 else ln) (if w.toList = [35] then fo else t.f2) else lineK k ws T ln fo else .error (t, 3)
  | _, [], _, _ => .error (⟨0, ofL [], 0, 0⟩, 3)
def goOn (out : List S46) : Except (S69 × Int) (S46 × List S69) → Except (Int × Int) PS
  | .error (t, e) => .error (t.f3, e)
  | .ok (r, T) => runP T ⟨0, 0, 0, 0, out ++ [r]⟩
theorem hash_at {k : Int} {a : Nat} {w : ByteArray} (h : (wordL k)[a]? = some w) : hashP k a = (w.toList == [35]) := by
  unfold hashP
  rw [h]
theorem wholeK_single {k : Int} (hk : k = 1 ∨ k = 2 ∨ k = 3 ∨ k = 4) (a : Nat) : wholeK (pOf k) a = if (wordL k).length = a then some k else none := by
  rw [pOfS hk]
  unfold wholeK
  rcases hk with rfl | rfl | rfl | rfl <;> simp
theorem fitW_end {w : ByteArray} {t : S69} (h : ¬ (t.f0 ≠ 3 ∧ t.f0 ≠ 0)) : fitW w t = false := by
  unfold fitW
  split
  · rw [beq_eq_false_iff_ne]; omega
  · split
    · rw [beq_eq_false_iff_ne]; omega
    · rw [if_neg (by omega)]
theorem run_single {k : Int} (hk : k = 1 ∨ k = 2 ∨ k = 3 ∨ k = 4) (out : List S46) : ∀ (T : List S69) (ws : List ByteArray) (a : Nat) (ln fo : Int), ending T → 1 ≤ a → (wordL k).drop a = ws → a ≤ (wordL k).length →
    runP T ⟨k, a, ln, fo, out⟩ = goOn out (lineK k ws T ln fo)
  | [], ws, a, ln, fo, hT, _, _, _ => by
    obtain ⟨M, e, h, _⟩ := hT
    simp at h
  | t :: T, ws, a, ln, fo, hT, ha, hw, hle => by
    have hT' : T ≠ [] → ending T := fun hne => by
      obtain ⟨M, e, h, he, hM⟩ := hT
      cases M with
      | nil =>
        simp at h
        exact absurd h.2 hne
      | cons m M =>
        simp only [List.cons_append, List.cons.injEq] at h
        exact ⟨M, e, h.2, he, fun u hu => hM u (.tail _ hu)⟩
    rw [runP, stepP]
    simp only
    by_cases h1 : t.f0 ≠ 3 ∧ t.f0 ≠ 0
    · rw [if_pos h1, if_neg (by omega)]
      have hne : T ≠ [] := fun h0 => by
        obtain ⟨M, e, h, he, hM⟩ := hT
        rw [h0] at h
        cases M with
        | nil =>
          simp only [List.nil_append, List.cons.injEq] at h
          rw [← h.1] at he
          exact h1.2 he
        | cons m M => simp at h
      rw [nextE_single hk, nextC_single hk]
      cases ws with
      | nil =>
        have hlen : (wordL k).length ≤ a := List.drop_eq_nil_iff.1 hw
        have hf : fitsP k a t = false := by
          unfold fitsP
          rw [List.getElem?_eq_none hlen]
        rw [hf]
        simp only [Bool.false_eq_true, if_false]
        rw [lineK, if_pos h1, if_neg (by omega)]
        rfl
      | cons w ws =>
        have hlt : a < (wordL k).length := by
          refine Nat.lt_of_not_le fun h => ?_
          rw [List.drop_eq_nil_of_le h] at hw
          cases hw
        rw [List.drop_eq_getElem_cons hlt, List.cons.injEq] at hw
        have hwa : (wordL k)[a]? = some w := by rw [List.getElem?_eq_getElem hlt, hw.1]
        rw [fitsP_at hwa, lineK]
        by_cases h2 : fitW w t = true
        · rw [if_pos h2, if_pos h2]
          by_cases h3 : t.f0 = 2
          · rw [if_pos h3, if_pos h3]
            by_cases h4 : t.f2 = 0
            · rw [if_pos h4, if_pos h4, if_neg (by omega)]
              rfl
            · rw [if_neg h4, if_neg h4, if_pos rfl]
              have e1 : nextLn (pOf k) a t ln = if w.toList = [35] then t.f2 else ln := by
                unfold nextLn
                rw [if_pos h3, long_single hk, fitsP_at hwa, h2, hash_at hwa, Bool.true_and]
                by_cases h5 : w.toList = [35]
                · rw [if_pos h5, if_pos (by rw [h5]; rfl)]
                · rw [if_neg h5, if_neg (by simpa using h5)]
              have e2 : nextFo (pOf k) a t fo = if w.toList = [35] then fo else t.f2 := by
                unfold nextFo
                rw [if_pos h3, long_single hk, fitsP_at hwa, h2, hash_at hwa, Bool.true_and]
                by_cases h5 : w.toList = [35]
                · rw [if_pos h5, if_pos (by rw [h5]; rfl)]
                · rw [if_neg h5, if_neg (by simpa using h5)]
              rw [e1, e2]
              exact run_single hk out T ws (a + 1) _ _ (hT' hne) (by omega) hw.2 (by omega)
          · rw [if_neg h3, if_neg h3, if_pos rfl]
            have e1 : nextLn (pOf k) a t ln = ln := by unfold nextLn; rw [if_neg h3]
            have e2 : nextFo (pOf k) a t fo = fo := by unfold nextFo; rw [if_neg h3]
            rw [e1, e2]
            exact run_single hk out T ws (a + 1) _ _ (hT' hne) (by omega) hw.2 (by omega)
        · rw [if_neg h2, if_neg h2, if_neg (by omega)]
          rfl
    · rw [if_neg h1, if_neg (by omega), wholeK_single hk]
      cases ws with
      | nil =>
        have hlen : (wordL k).length ≤ a := List.drop_eq_nil_iff.1 hw
        rw [if_pos (by omega), lineK, if_neg h1]
        rfl
      | cons w ws =>
        have hlt : a < (wordL k).length := by
          refine Nat.lt_of_not_le fun h => ?_
          rw [List.drop_eq_nil_of_le h] at hw
          cases hw
        rw [if_neg (by omega), lineK, if_neg (by rw [fitW_end h1]; decide)]
        rfl
end Go.Proofs.YtonlbeonblpblaaDoor.Pl
/-! ## A line of a calendar, token by token, in plain Lean: 'lineS'; and that Parse goes by it. No condition. -/
namespace Go.Proofs.YtonlbeonblpblaaDoor.Pl
open Go.RowKit Go.Proofs.YtonlbeonblpblaaDoor.All Go.Proofs.YtonlbeonblpblaaDoorW.PrintWords
set_option linter.unusedVariables false
set_option linter.unusedSimpArgs false

def wF : ByteArray := ⟨#[102, 111, 114]⟩
def wA : ByteArray := ⟨#[97, 102, 116, 101, 114]⟩
theorem word1 : wordL 1 = [wE, wW, wF, wX] := rfl
theorem word2 : wordL 2 = [wE, wH, wF, wX] := rfl
theorem word3 : wordL 3 = [wQ, wH, wF, wX] := rfl
theorem word4 : wordL 4 = [wN, wA, wX] := rfl
def lineE : List S69 → Except (S69 × Int) (S46 × List S69)
  | [] => .error (⟨0, ofL [], 0, 0⟩, 3)
  | t1 :: T1 => if fitW wW t1 = true then lineK 1 [wF, wX] T1 0 0 else if t1.f0 = 2 then if t1.f2 = 0 then .error (t1, 2) else lineK 2 [wF, wX] T1 t1.f2 0 else .error (t1, 3)
def lineS : List S69 → Except (S69 × Int) (S46 × List S69)
  | [] => .error (⟨0, ofL [], 0, 0⟩, 3)
  | t :: T =>
    if fitW wE t = true then lineE T
    else if fitW wQ t = true then lineK 3 [wH, wF, wX] T 0 0
    else if fitW wN t = true then lineK 4 [wA, wX] T 0 0
    else .error (t, 3)
theorem anyP_false : anyP (fun _ => false) = false := rfl
theorem left0 (t : S69) : anyP (leftP (pOf 0) 0 t) = (fitW wE t || fitW wQ t || fitW wN t) := by
  have e : ∀ k, isKind k = true → leftP (pOf 0) 0 t k = fitsP k 0 t := fun k hk => by
    unfold leftP
    rw [pOf0, hk, Bool.true_and]
  unfold anyP
  rw [e 1 rfl, e 2 rfl, e 3 rfl, e 4 rfl, fits10, fits20, fits30, fits40, Bool.or_self]
theorem left5 (t : S69) : anyP (leftP (pOf 5) 1 t) = (fitW wW t || fitW wH t) := by
  have e1 : leftP (pOf 5) 1 t 1 = fitW wW t := by unfold leftP; rw [pOf5, fits11]; rfl
  have e2 : leftP (pOf 5) 1 t 2 = fitW wH t := by unfold leftP; rw [pOf5, fits21]; rfl
  have e3 : leftP (pOf 5) 1 t 3 = false := by unfold leftP; rw [pOf5]; rfl
  have e4 : leftP (pOf 5) 1 t 4 = false := by unfold leftP; rw [pOf5]; rfl
  unfold anyP
  rw [e1, e2, e3, e4, Bool.or_false, Bool.or_false]
theorem word_kind {t : S69} (h : fitW wE t = true ∨ fitW wQ t = true ∨ fitW wN t = true) : t.f0 = 1 := by
  rcases h with h | h | h
  · exact ((fE t).1 h).1
  · exact ((fQ t).1 h).1
  · exact ((fN t).1 h).1
theorem next0 (t : S69) : nextE (pOf 0) 0 t = if fitW wE t = true ∨ fitW wQ t = true ∨ fitW wN t = true then 0 else 3 := by
  unfold nextE
  rw [left0]
  by_cases h : fitW wE t = true ∨ fitW wQ t = true ∨ fitW wN t = true
  · have h1 : (fitW wE t || fitW wQ t || fitW wN t) = true := by
      simp only [Bool.or_eq_true]
      rcases h with h | h | h
      · exact .inl (.inl h)
      · exact .inl (.inr h)
      · exact .inr h
    rw [if_pos h1, if_pos h, if_neg (by rw [word_kind h]; decide)]
  · have h1 : ¬ (fitW wE t || fitW wQ t || fitW wN t) = true := by
      simp only [Bool.or_eq_true]
      rintro ((h' | h') | h')
      · exact h (.inl h')
      · exact h (.inr (.inl h'))
      · exact h (.inr (.inr h'))
    rw [if_neg h1, if_neg h]
theorem next5 (t : S69) : nextE (pOf 5) 1 t = if fitW wW t = true then 0 else if t.f0 = 2 then if t.f2 = 0 then 2 else 0 else 3 := by
  unfold nextE
  rw [left5]
  by_cases h : fitW wW t = true
  · have h2 := ((fWr t).1 h).1
    rw [if_pos h, h, Bool.true_or, if_pos rfl, if_neg (by omega)]
  · have h' : fitW wW t = false := by simpa using h
    rw [if_neg h, h', Bool.false_or]
    by_cases h2 : t.f0 = 2
    · rw [if_pos ((fH t).2 h2), if_pos h2, if_pos h2]
    · rw [if_neg (fun h3 => h2 ((fH t).1 h3)), if_neg h2]
theorem long5 {t : S69} (h : fitW wW t = false) (h2 : t.f0 = 2) : longP (pOf 5) 1 t = true := by
  have e2 : leftP (pOf 5) 1 t 2 = true := by unfold leftP; rw [pOf5, fits21, (fH t).2 h2]; rfl
  have e3 : hashP 2 1 = true := by
    rw [hash_at (w := wH) rfl, tl wH]
    rfl
  show ((leftP (pOf 5) 1 t 1 && hashP 1 1) || (leftP (pOf 5) 1 t 2 && hashP 2 1) || (leftP (pOf 5) 1 t 3 && hashP 3 1) || (leftP (pOf 5) 1 t 4 && hashP 4 1)) = true
  rw [e2, e3]
  simp
theorem ending_tail {t : S69} {T : List S69} (h : ending (t :: T)) (ht : t.f0 ≠ 0) : ending T := by
  obtain ⟨M, e, h, he, hM⟩ := h
  cases M with
  | nil =>
    simp only [List.nil_append, List.cons.injEq] at h
    rw [← h.1] at he
    exact absurd he ht
  | cons m M =>
    simp only [List.cons_append, List.cons.injEq] at h
    exact ⟨M, e, h.2, he, fun u hu => hM u (.tail _ hu)⟩
theorem whole5 : wholeK (pOf 5) 1 = none := by
  unfold wholeK
  rw [if_neg (by rw [word1]; simp), if_neg (by rw [word2]; simp), if_neg (by rw [word3]; simp), if_neg (by rw [word4]; simp)]
theorem run_line {t : S69} {T : List S69} (hT : ending (t :: T)) (h1 : t.f0 ≠ 3 ∧ t.f0 ≠ 0) (out : List S46) (ho : out.length < 16) : runP (t :: T) ⟨0, 0, 0, 0, out⟩ = goOn out (lineS (t :: T)) := by
  have hT1 := ending_tail hT h1.2
  rw [runP, stepP]
  simp only
  rw [if_pos h1, if_neg (by omega), lineS]
  by_cases hE : fitW wE t = true
  · have hk := word_kind (.inl hE)
    have e0 : nextC 0 t = 5 := by unfold nextC; rw [if_pos rfl, if_pos hE]
    have e1 : nextLn (pOf 0) 0 t 0 = 0 := by unfold nextLn; rw [if_neg (by omega)]
    have e2 : nextFo (pOf 0) 0 t 0 = 0 := by unfold nextFo; rw [if_neg (by omega)]
    rw [if_pos (show nextE (pOf 0) 0 t = 0 by rw [next0, if_pos (.inl hE)]), if_pos hE, e0, e1, e2]
    simp only
    cases T with
    | nil =>
      obtain ⟨M, e, h, _⟩ := hT1
      simp at h
    | cons t1 T1 =>
      rw [lineE, runP, stepP]
      simp only
      by_cases h2 : t1.f0 ≠ 3 ∧ t1.f0 ≠ 0
      · have hT2 := ending_tail hT1 h2.2
        rw [if_pos h2, if_neg (by omega)]
        have hn5 := next5 t1
        by_cases hW : fitW wW t1 = true
        · have hk1 := ((fWr t1).1 hW).1
          have e3 : nextC 5 t1 = 1 := by unfold nextC; rw [if_neg (by omega), if_pos rfl, if_pos hW]
          have e4 : nextLn (pOf 5) 1 t1 0 = 0 := by unfold nextLn; rw [if_neg (by omega)]
          have e5 : nextFo (pOf 5) 1 t1 0 = 0 := by unfold nextFo; rw [if_neg (by omega)]
          rw [if_pos hW] at hn5
          rw [if_pos hn5, if_pos hW, e3, e4, e5]
          exact run_single (by omega) out T1 [wF, wX] 2 0 0 hT2 (by omega) rfl (by decide)
        · have hW' : fitW wW t1 = false := by simpa using hW
          rw [if_neg hW] at hn5
          rw [if_neg hW]
          by_cases h3 : t1.f0 = 2
          · rw [if_pos h3] at hn5
            rw [if_pos h3]
            by_cases h4 : t1.f2 = 0
            · rw [if_pos h4] at hn5
              rw [if_pos h4, if_neg (by rw [hn5]; decide), hn5]
              rfl
            · have e3 : nextC 5 t1 = 2 := by unfold nextC; rw [if_neg (by omega), if_pos rfl, if_neg hW]
              have e4 : nextLn (pOf 5) 1 t1 0 = t1.f2 := by unfold nextLn; rw [if_pos h3, if_pos (long5 hW' h3)]
              have e5 : nextFo (pOf 5) 1 t1 0 = 0 := by unfold nextFo; rw [if_pos h3, if_pos (long5 hW' h3)]
              rw [if_neg h4] at hn5
              rw [if_neg h4, if_pos hn5, e3, e4, e5]
              exact run_single (by omega) out T1 [wF, wX] 2 _ 0 hT2 (by omega) rfl (by decide)
          · rw [if_neg h3] at hn5
            rw [if_neg h3, if_neg (by rw [hn5]; decide), hn5]
            rfl
      · have hW : ¬ fitW wW t1 = true := fun h => h2 ⟨by have := ((fWr t1).1 h).1; omega, by have := ((fWr t1).1 h).1; omega⟩
        rw [if_neg h2, if_neg (by omega), whole5, if_neg hW, if_neg (by omega)]
        rfl
  · rw [if_neg hE]
    by_cases hQ : fitW wQ t = true
    · have hk := word_kind (.inr (.inl hQ))
      have e0 : nextC 0 t = 3 := by unfold nextC; rw [if_pos rfl, if_neg hE, if_pos hQ]
      have e1 : nextLn (pOf 0) 0 t 0 = 0 := by unfold nextLn; rw [if_neg (by omega)]
      have e2 : nextFo (pOf 0) 0 t 0 = 0 := by unfold nextFo; rw [if_neg (by omega)]
      rw [if_pos (show nextE (pOf 0) 0 t = 0 by rw [next0, if_pos (.inr (.inl hQ))]), if_pos hQ, e0, e1, e2]
      exact run_single (by omega) out T [wH, wF, wX] 1 0 0 hT1 (by omega) rfl (by decide)
    · rw [if_neg hQ]
      by_cases hN : fitW wN t = true
      · have hk := word_kind (.inr (.inr hN))
        have e0 : nextC 0 t = 4 := by unfold nextC; rw [if_pos rfl, if_neg hE, if_neg hQ]
        have e1 : nextLn (pOf 0) 0 t 0 = 0 := by unfold nextLn; rw [if_neg (by omega)]
        have e2 : nextFo (pOf 0) 0 t 0 = 0 := by unfold nextFo; rw [if_neg (by omega)]
        rw [if_pos (show nextE (pOf 0) 0 t = 0 by rw [next0, if_pos (.inr (.inr hN))]), if_pos hN, e0, e1, e2]
        exact run_single (by omega) out T [wA, wX] 1 0 0 hT1 (by omega) rfl (by decide)
      · have hn : nextE (pOf 0) 0 t = 3 := by rw [next0, if_neg (fun h => h.elim hE (fun h => h.elim hQ hN))]
        rw [if_neg (by rw [hn]; decide), if_neg hN, hn]
        rfl
end Go.Proofs.YtonlbeonblpblaaDoor.Pl
