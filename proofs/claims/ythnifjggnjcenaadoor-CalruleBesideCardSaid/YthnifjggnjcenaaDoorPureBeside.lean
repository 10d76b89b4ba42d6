/-
  The law CalruleBeside in plain Lean: it tells true of any two texts.
-/
import Derived.Test.YthnifjggnjcenaaDoorPureSame
import Derived.Test.YthnifjggnjcenaaDoorAllx15
namespace Go.Proofs.YthnifjggnjcenaaDoor.Pl
open Go.RowKit Go.Proofs.YthnifjggnjcenaaDoor.All Go.Proofs.YthnifjggnjcenaaDoorW.PrintWords
set_option linter.unusedVariables false
set_option linter.unusedSimpArgs false

/-- With rules ahead: more rules, as long as there is room. -/
def ahead (pre : List S33) (s : PS) : PS := ⟨s.c, s.a, s.ln, s.fo, pre ++ s.out⟩
theorem step_ahead_ok {pre : List S33} {s s1 : PS} {t : S46} (h : stepP s t = .ok s1) (hr : s.a = 0 → (t.f0 ≠ 3 ∧ t.f0 ≠ 0) → pre.length + s.out.length < 16) : stepP (ahead pre s) t = .ok (ahead pre s1) := by
  unfold stepP at h ⊢
  unfold ahead
  simp only
  by_cases h1 : t.f0 ≠ 3 ∧ t.f0 ≠ 0
  · rw [if_pos h1] at h ⊢
    by_cases h2 : s.a = 0 ∧ 16 ≤ s.out.length
    · rw [if_pos h2] at h; cases h
    · rw [if_neg h2] at h
      rw [if_neg (fun x => by have := hr x.1 h1; have := x.2; rw [List.length_append] at this; omega)]
      by_cases h3 : nextE (pOf s.c) s.a t = 0
      · rw [if_pos h3] at h ⊢
        rw [← Except.ok.inj h]
      · rw [if_neg h3] at h; cases h
  · rw [if_neg h1] at h ⊢
    by_cases h2 : s.a = 0
    · rw [if_pos h2] at h ⊢
      rw [← Except.ok.inj h]
    · rw [if_neg h2] at h ⊢
      cases hk : wholeK (pOf s.c) s.a with
      | none => rw [hk] at h; cases h
      | some k =>
        rw [hk] at h
        simp only at h ⊢
        rw [← Except.ok.inj h, List.append_assoc]
theorem step_ahead_err {pre : List S33} {s : PS} {t : S46} {e : Int} (h : stepP s t = .error e) : ∃ e', stepP (ahead pre s) t = .error e' := by
  unfold stepP at h ⊢
  unfold ahead
  simp only
  by_cases h1 : t.f0 ≠ 3 ∧ t.f0 ≠ 0
  · rw [if_pos h1] at h ⊢
    by_cases h2 : s.a = 0 ∧ 16 ≤ s.out.length
    · rw [if_pos ⟨h2.1, by rw [List.length_append]; omega⟩]
      exact ⟨_, rfl⟩
    · rw [if_neg h2] at h
      by_cases h4 : s.a = 0 ∧ 16 ≤ (pre ++ s.out).length
      · rw [if_pos h4]; exact ⟨_, rfl⟩
      · rw [if_neg h4]
        by_cases h3 : nextE (pOf s.c) s.a t = 0
        · rw [if_pos h3] at h; cases h
        · rw [if_neg h3]; exact ⟨_, rfl⟩
  · rw [if_neg h1] at h ⊢
    by_cases h2 : s.a = 0
    · rw [if_pos h2] at h; cases h
    · rw [if_neg h2] at h ⊢
      cases hk : wholeK (pOf s.c) s.a with
      | none => exact ⟨_, rfl⟩
      | some k => rw [hk] at h; cases h
/-- How many rules a step leaves, at least. -/
def due (s : PS) : Nat := s.out.length + (if s.a = 0 then 0 else 1)
theorem step_due {s s1 : PS} {t : S46} (h : stepP s t = .ok s1) : due s ≤ due s1 ∧ ((t.f0 ≠ 3 ∧ t.f0 ≠ 0) → s.out.length + 1 ≤ due s1) := by
  unfold stepP at h
  unfold due
  by_cases h1 : t.f0 ≠ 3 ∧ t.f0 ≠ 0
  · rw [if_pos h1] at h
    split at h
    · cases h
    · split at h
      · rw [← Except.ok.inj h]
        simp only
        rw [if_neg (show ¬ s.a + 1 = 0 by omega)]
        split <;> omega
      · cases h
  · rw [if_neg h1] at h
    refine ⟨?_, fun h' => absurd h' h1⟩
    by_cases h2 : s.a = 0
    · rw [if_pos h2] at h
      rw [← Except.ok.inj h]
      exact Nat.le_refl _
    · rw [if_neg h2] at h
      cases hk : wholeK (pOf s.c) s.a with
      | none => rw [hk] at h; cases h
      | some k =>
        rw [hk] at h
        rw [← Except.ok.inj h]
        simp [h2]
theorem run_due : ∀ (T : List S46) {s s1 : PS}, runP T s = .ok s1 → due s ≤ due s1
  | [], s, s1, h => by rw [← Except.ok.inj h]; exact Nat.le_refl _
  | t :: T, s, s1, h => by
    rw [runP] at h
    cases hs : stepP s t with
    | error e => rw [hs] at h; cases h
    | ok s2 =>
      rw [hs] at h
      exact Nat.le_trans (step_due hs).1 (run_due T h)
theorem run_ahead (pre : List S33) : ∀ (T : List S46) {s s1 : PS}, runP T s = .ok s1 → pre.length + due s1 ≤ 16 → runP T (ahead pre s) = .ok (ahead pre s1)
  | [], s, s1, h, _ => by rw [← Except.ok.inj h]; rfl
  | t :: T, s, s1, h, hl => by
    rw [runP] at h ⊢
    cases hs : stepP s t with
    | error e => rw [hs] at h; cases h
    | ok s2 =>
      rw [hs] at h
      have h1 := step_due hs
      have h2 := run_due T h
      rw [step_ahead_ok hs (fun _ ht => by have := h1.2 ht; omega)]
      exact run_ahead pre T h hl
theorem run_ahead_err (pre : List S33) : ∀ (T : List S46) {s : PS} {x : Int × Int}, runP T s = .error x → ∃ x', runP T (ahead pre s) = .error x'
  | [], s, x, h => by cases h
  | t :: T, s, x, h => by
    rw [runP] at h ⊢
    cases hs : stepP s t with
    | error e =>
      obtain ⟨e', he⟩ := step_ahead_err (pre := pre) hs
      rw [he]
      exact ⟨_, rfl⟩
    | ok s2 =>
      rw [hs] at h
      cases ha : stepP (ahead pre s) t with
      | error e' => exact ⟨_, rfl⟩
      | ok s3 =>
        have e : s3 = ahead pre s2 := by
          by_cases hr : s.a = 0 → (t.f0 ≠ 3 ∧ t.f0 ≠ 0) → pre.length + s.out.length < 16
          · rw [step_ahead_ok hs hr] at ha
            exact (Except.ok.inj ha).symm
          · exfalso
            simp only [Classical.not_imp] at hr
            obtain ⟨r1, r2, r3⟩ := hr
            unfold stepP ahead at ha
            simp only at ha
            rw [if_pos r2, if_pos ⟨r1, by rw [List.length_append]; omega⟩] at ha
            cases ha
        rw [e]
        exact run_ahead_err pre T h
/-- No room: that is told. -/
theorem run_full (pre : List S33) : ∀ (T : List S46) {s s1 : PS}, runP T s = .ok s1 → pre.length + due s ≤ 16 → 16 < pre.length + due s1 → ∃ p, runP T (ahead pre s) = .error (p, 6)
  | [], s, s1, h, h1, h2 => by rw [← Except.ok.inj h] at h2; omega
  | t :: T, s, s1, h, h1, h2 => by
    rw [runP] at h ⊢
    cases hs : stepP s t with
    | error e => rw [hs] at h; cases h
    | ok s2 =>
      rw [hs] at h
      by_cases hr : s.a = 0 → (t.f0 ≠ 3 ∧ t.f0 ≠ 0) → pre.length + s.out.length < 16
      · rw [step_ahead_ok hs hr]
        refine run_full pre T h ?_ h2
        unfold stepP at hs
        unfold due at h1 ⊢
        by_cases h3 : t.f0 ≠ 3 ∧ t.f0 ≠ 0
        · rw [if_pos h3] at hs
          split at hs
          · cases hs
          · split at hs
            · rw [← Except.ok.inj hs]
              simp only
              rw [if_neg (show ¬ s.a + 1 = 0 by omega)]
              by_cases h0 : s.a = 0
              · have := hr h0 h3; omega
              · rw [if_neg h0] at h1; omega
            · cases hs
        · rw [if_neg h3] at hs
          by_cases h0 : s.a = 0
          · rw [if_pos h0] at hs
            rw [← Except.ok.inj hs]
            exact h1
          · rw [if_neg h0] at hs h1
            split at hs
            · cases hs
            · rw [← Except.ok.inj hs]
              simp only [List.length_append, List.length_singleton, if_true]
              omega
      · simp only [Classical.not_imp] at hr
        obtain ⟨r1, r2, r3⟩ := hr
        have : stepP (ahead pre s) t = .error 6 := by
          unfold stepP ahead
          simp only
          rw [if_pos r2, if_pos ⟨r1, by rw [List.length_append]; omega⟩]
        rw [this]
        exact ⟨_, rfl⟩

theorem beside_pure (s t : ByteArray) (_hs : s.size ≤ 140737488351232) (_ht : t.size ≤ 140737488351232) : Ev (fun k => erewhilelaw34_CalruleBeside.f k s t) true := by
  simp only [erewhilelaw34_CalruleBeside.f]
  refine Ev.bind awake_ev ?_
  simp only [if_true]
  have far : Ev (fun k => erewhilelaw34_CalruleBeside.j0 k s t true) true := by
    refine ev_succ ?_
    simp only [erewhilelaw34_CalruleBeside.j0, if_true]
    exact Ev.bind awake_ev ev_some
  by_cases h : (s.size : Int) > 400
  · simp only [if_pos h]
    exact far
  · by_cases h' : (t.size : Int) > 400
    · simp only [if_neg h, decide_eq_true h']
      exact far
    · simp only [if_neg h, decide_eq_false h']
      refine ev_succ ?_
      simp only [erewhilelaw34_CalruleBeside.j0, Bool.false_eq_true, if_false]
      refine Ev.bind (parse_ev s (by omega)) ?_
      refine Ev.bind (parse_ev t (by omega)) ?_
      have e0 : (⟨#[10]⟩ : ByteArray) = ofL [10] := rfl
      have hsz : (s ++ ofL [10]).size = s.size + 1 := by
        rw [← lst_len, lst_append, lst_ofL, List.length_append, lst_len]
        rfl
      have c1 : s.size + 1 ≤ 9223372036854775807 := by omega
      have c2 : (s ++ ofL [10]).size + t.size ≤ 9223372036854775807 := by omega
      have hsz2 : (s ++ ofL [10] ++ t).size = s.size + 1 + t.size := by
        rw [← lst_len, lst_append, List.length_append, lst_len, lst_len, hsz]
      simp only [if_pos c1, e0, if_pos c2]
      refine Ev.bind (parse_ev (s ++ ofL [10] ++ t) (by omega)) ?_
      have hc : lst (s ++ ofL [10] ++ t) = lst s ++ 10 :: lst t := by
        rw [lst_append, lst_append, lst_ofL]
        simp
      have bad : ∀ (l m n : List S33) (g : Int) (q : Bool), q = true → g ≠ 0 → Ev (fun k => erewhilelaw34_CalruleBeside.j1 k l m n g q) true := by
        rintro l m n g _ rfl hg
        refine ev_succ ?_
        simp only [erewhilelaw34_CalruleBeside.j1, if_true, bne_iff_ne.2 hg]
        exact ev_some
      have hall : ∀ (X : List S33 × Int × Int) (Y : List S33 × Int × Int) (Z : List S33 × Int × Int), parseS s = X → parseS t = Y → parseS (s ++ ofL [10] ++ t) = Z →
          (X.2.2 ≠ 0 ∨ Y.2.2 ≠ 0 → Z.2.2 ≠ 0) ∧ (X.2.2 = 0 → Y.2.2 = 0 → X.1.length ≤ 16 ∧ Y.1.length ≤ 16 ∧ (X.1.length + Y.1.length > 16 → Z.2.2 = 6) ∧ (X.1.length + Y.1.length ≤ 16 → Z = (X.1 ++ Y.1, 0, 0))) := by
        rintro X Y Z rfl rfl rfl
        rw [parseS_lst s, parseS_lst t, parseS_lst (s ++ ofL [10] ++ t), hc, lexT_beside, Nat.zero_add, lst_len]
        cases hA : lexT (lst s) 0 with
        | error j =>
          simp only [besideL]
          exact ⟨fun _ => by decide, fun h => absurd h (by decide)⟩
        | ok L =>
          have hsh := lexT_shift (s.size + 1) (lst t) 0
          rw [Nat.zero_add] at hsh
          cases hB : lexT (lst t) 0 with
          | error j =>
            rw [hB] at hsh
            simp only [besideL, hsh, shiftL, Except.map]
            exact ⟨fun _ => by decide, fun _ h => absurd h (by decide)⟩
          | ok M =>
            rw [hB] at hsh
            simp only [besideL, hsh, shiftL, Except.map]
            rw [parseC_run, parseC_run, parseC_run]
            obtain ⟨A, e, rfl, he, hAt⟩ := lexT_ending _ _ _ hA
            obtain ⟨A2, e2, rfl, he2, hAt2⟩ := lexT_ending _ _ _ hB
            rw [List.dropLast_concat, runP_append A [e], runP_append A (_ :: _)]
            cases hr : runP A ⟨0, 0, 0, 0, []⟩ with
            | error x =>
              simp only [outP]
              have := run_err A _ hr
              exact ⟨fun _ => this, fun h => absurd h this⟩
            | ok s1 =>
              simp only
              have hst : stepP s1 ⟨3, ofL [], 0, (s.size : Int)⟩ = stepP s1 e := step_stop s1 (by simp) (by omega)
              have e1 : runP [e] s1 = match stepP s1 e with | .error x => .error (e.f3, x) | .ok s' => .ok s' := by
                rw [runP]
                cases stepP s1 e <;> rfl
              rw [e1, runP, hst]
              cases hs1 : stepP s1 e with
              | error x =>
                simp only [outP]
                have := step_err hs1
                exact ⟨fun _ => this, fun h => absurd h this⟩
              | ok s2 =>
                have h2 := stop_state (by omega) (run_zero A hr ⟨fun _ => ⟨rfl, rfl, rfl⟩⟩) hs1
                have hl := runP_few A _ s1 (by simp) (fun h => absurd rfl h) hr
                obtain ⟨l, rfl⟩ : ∃ l, s2 = ⟨0, 0, 0, 0, l⟩ := h2
                have hl16 := runP_few (A ++ [e]) ⟨0, 0, 0, 0, []⟩ ⟨0, 0, 0, 0, l⟩ (by simp) (fun h => absurd rfl h) (by rw [runP_append, hr]; simp only; rw [e1, hs1])
                simp only [outP]
                have hah : (⟨0, 0, 0, 0, l⟩ : PS) = ahead l ⟨0, 0, 0, 0, []⟩ := by unfold ahead; simp
                have hmap : (A2 ++ [e2]).map stripT = ((A2 ++ [e2]).map (shiftT (s.size + 1))).map stripT := by
                  rw [List.map_map]
                  rfl
                cases hM : runP (A2 ++ [e2]) ⟨0, 0, 0, 0, []⟩ with
                | error x =>
                  obtain ⟨x', hx'⟩ := run_ahead_err l _ hM
                  rw [← hah] at hx'
                  obtain ⟨p, hp⟩ := runP_strip_err _ hmap hx'
                  simp only [outP]
                  rw [hp]
                  have n1 := run_err _ _ hM
                  have n2 := run_err _ _ hx'
                  exact ⟨fun _ => n2, fun _ h => absurd h n1⟩
                | ok s3 =>
                  obtain ⟨m, rfl⟩ : ∃ m, s3 = ⟨0, 0, 0, 0, m⟩ := by
                    rw [runP_append] at hM
                    cases hr2 : runP A2 ⟨0, 0, 0, 0, []⟩ with
                    | error x => rw [hr2] at hM; cases hM
                    | ok s4 =>
                      rw [hr2] at hM
                      simp only [runP] at hM
                      cases hs4 : stepP s4 e2 with
                      | error x => rw [hs4] at hM; cases hM
                      | ok s5 =>
                        rw [hs4] at hM
                        rw [← Except.ok.inj hM]
                        exact stop_state (by omega) (run_zero A2 hr2 ⟨fun _ => ⟨rfl, rfl, rfl⟩⟩) hs4
                  have hm16 := runP_few (A2 ++ [e2]) ⟨0, 0, 0, 0, []⟩ _ (by simp) (fun h => absurd rfl h) hM
                  simp only at hm16 hl16
                  have d0 : due ⟨0, 0, 0, 0, m⟩ = m.length := by simp [due]
                  have d1 : due ⟨0, 0, 0, 0, []⟩ = 0 := by simp [due]
                  simp only [outP]
                  refine ⟨fun h => by rcases h with h | h <;> exact absurd rfl h, fun _ _ => ⟨hl16, hm16, fun hgt => ?_, fun hle => ?_⟩⟩
                  · obtain ⟨p, hp⟩ := run_full l _ hM (by rw [d1]; omega) (by rw [d0]; omega)
                    rw [← hah] at hp
                    obtain ⟨p', hp'⟩ := runP_strip_err _ hmap hp
                    rw [hp']
                  · have hg := run_ahead l _ hM (by rw [d0]; omega)
                    rw [← hah] at hg
                    rw [runP_strip _ hmap _ hg]
                    rfl
      obtain ⟨q1, q2⟩ := hall _ _ _ rfl rfl rfl
      generalize parseS s = X at *
      generalize parseS t = Y at *
      generalize parseS (s ++ ofL [10] ++ t) = Z at *
      by_cases x0 : X.2.2 = 0
      · simp only [if_pos x0]
        by_cases y0 : Y.2.2 = 0
        · have yb : (Y.2.2 != 0) = false := bne_eq_false_iff_eq.2 y0
          obtain ⟨b1, b2, b3, b4⟩ := q2 x0 y0
          simp only [yb]
          refine ev_succ ?_
          have hw : wrap64 ((X.1.length : Int) + (Y.1.length : Int)) = (X.1.length : Int) + (Y.1.length : Int) := by unfold wrap64; omega
          simp only [erewhilelaw34_CalruleBeside.j1, Bool.false_eq_true, if_false, hw]
          by_cases hgt : X.1.length + Y.1.length > 16
          · have hgt' : (X.1.length : Int) + (Y.1.length : Int) > 16 := by omega
            have b3' := b3 hgt
            simp only [if_pos hgt', b3']
            exact ev_some
          · have hgt' : ¬ (X.1.length : Int) + (Y.1.length : Int) > 16 := by omega
            have b4' := b4 (by omega)
            rw [b4']
            have g1 : ([] : List S33).length + X.1.length < 5864062014805 := by simp; omega
            have g2 : ([] ++ X.1).length + Y.1.length < 5864062014805 := by simp; omega
            simp only [if_neg hgt', if_true, Option.bind_some, if_pos g1, if_pos g2]
            simp only [List.nil_append]
            exact Ev.bind (same_ev _ (by rw [List.length_append]; omega)) ev_some
        · have yb : (Y.2.2 != 0) = true := bne_iff_ne.2 y0
          simp only [yb]
          exact bad _ _ _ _ _ rfl (q1 (.inr y0))
      · simp only [if_neg x0]
        exact bad _ _ _ _ _ rfl (q1 (.inl x0))
end Go.Proofs.YthnifjggnjcenaaDoor.Pl
