/-
  More on Parse in plain Lean: how many rules; the same rules; what a line's end leaves. No condition.
-/
import Derived.Test.YtonlbeonblpblaaDoorLineP
namespace Go.Proofs.YtonlbeonblpblaaDoor.Pl
open Go.RowKit Go.Proofs.YtonlbeonblpblaaDoor.All Go.Proofs.YtonlbeonblpblaaDoorW.PrintWords
set_option linter.unusedVariables false
set_option linter.unusedSimpArgs false

theorem rd33_is (l : List S46) (i : Nat) (h : i < l.length) : rd_T46 l (i : Int) = l[i] := by
  show l.getD (i : Int).toNat z46 = l[i]
  rw [Int.toNat_natCast, List.getD_eq_getElem?_getD, List.getElem?_eq_getElem h]
  rfl
/-- Never more than sixteen. -/
theorem runP_few : ∀ (T : List S69) (s s' : PS), s.out.length ≤ 16 → (s.a ≠ 0 → s.out.length < 16) → runP T s = .ok s' → s'.out.length ≤ 16
  | [], s, s', h, _, e => by
    rw [runP] at e
    rw [← Except.ok.inj e]
    exact h
  | t :: T, s, s', h, ha, e => by
    rw [runP] at e
    cases hs : stepP s t with
    | error x => rw [hs] at e; cases e
    | ok s1 =>
      rw [hs] at e
      simp only at e
      have h2 : s1.out.length ≤ 16 ∧ (s1.a ≠ 0 → s1.out.length < 16) := by
        unfold stepP at hs
        split at hs
        · split at hs
          · cases hs
          · rename_i hn
            split at hs
            · rw [← Except.ok.inj hs]
              simp only
              by_cases h0 : s.a = 0
              · omega
              · have := ha h0; omega
            · cases hs
        · split at hs
          · rw [← Except.ok.inj hs]
            exact ⟨h, ha⟩
          · rename_i h0
            split at hs
            · cases hs
            · rw [← Except.ok.inj hs]
              simp only [List.length_append, List.length_singleton]
              have := ha h0
              exact ⟨by omega, fun h => absurd rfl h⟩
      exact runP_few T s1 s' h2.1 h2.2 e
theorem step_err {s : PS} {t : S69} {e : Int} (h : stepP s t = .error e) : e ≠ 0 := by
  unfold stepP at h
  split at h
  · split at h
    · rw [← Except.error.inj h]; decide
    · split at h
      · cases h
      · rename_i hn
        rw [← Except.error.inj h]
        exact hn
  · split at h
    · cases h
    · split at h
      · rw [← Except.error.inj h]; decide
      · cases h
theorem run_err : ∀ (T : List S69) (s : PS) {x : Int × Int}, runP T s = .error x → x.2 ≠ 0
  | [], s, x, h => by cases h
  | t :: T, s, x, h => by
    rw [runP] at h
    cases hs : stepP s t with
    | error e =>
      rw [hs] at h
      rw [← Except.error.inj h]
      exact step_err hs
    | ok s1 =>
      rw [hs] at h
      exact run_err T s1 h
theorem parseS_kinds (s : ByteArray) : (∃ l, parseS s = (l, 0, 0) ∧ l.length ≤ 16) ∨ (∃ p e, parseS s = ([], p, e) ∧ e ≠ 0) := by
  rw [parseS_lst]
  cases lexT (lst s) 0 with
  | error j => exact .inr ⟨_, _, rfl, by decide⟩
  | ok L =>
    simp only
    rw [parseC_run]
    cases hr : runP L ⟨0, 0, 0, 0, []⟩ with
    | ok s' => exact .inl ⟨s'.out, rfl, runP_few L _ s' (by simp) (fun h => absurd rfl h) hr⟩
    | error x => exact .inr ⟨x.1, x.2, rfl, run_err L _ hr⟩
/-! ### stops -/
/-- The state ahead of a line's first token is always the same, but for the rules. -/
structure Zero (s : PS) : Prop where
  z : s.a = 0 → s.c = 0 ∧ s.ln = 0 ∧ s.fo = 0
theorem step_zero {s s1 : PS} {t : S69} (h : stepP s t = .ok s1) (hz : Zero s) : Zero s1 := by
  unfold stepP at h
  split at h
  · split at h
    · cases h
    · split at h
      · rw [← Except.ok.inj h]
        exact ⟨fun h => absurd h (by simp)⟩
      · cases h
  · split at h
    · rw [← Except.ok.inj h]; exact hz
    · split at h
      · cases h
      · rw [← Except.ok.inj h]; exact ⟨fun _ => ⟨rfl, rfl, rfl⟩⟩
theorem run_zero : ∀ (T : List S69) {s s1 : PS}, runP T s = .ok s1 → Zero s → Zero s1
  | [], s, s1, h, hz => by rw [← Except.ok.inj h]; exact hz
  | t :: T, s, s1, h, hz => by
    rw [runP] at h
    cases hs : stepP s t with
    | error e => rw [hs] at h; cases h
    | ok s2 =>
      rw [hs] at h
      exact run_zero T h (step_zero hs hz)
theorem step_stop (s : PS) {t u : S69} (ht : ¬ (t.f0 ≠ 3 ∧ t.f0 ≠ 0)) (hu : ¬ (u.f0 ≠ 3 ∧ u.f0 ≠ 0)) : stepP s t = stepP s u := by
  unfold stepP
  rw [if_neg ht, if_neg hu]
theorem stop_state {s s1 : PS} {t : S69} (ht : ¬ (t.f0 ≠ 3 ∧ t.f0 ≠ 0)) (hz : Zero s) (h : stepP s t = .ok s1) : ∃ l, s1 = ⟨0, 0, 0, 0, l⟩ := by
  unfold stepP at h
  rw [if_neg ht] at h
  split at h
  · rename_i h0
    obtain ⟨c, a, ln, fo, out⟩ := s
    obtain ⟨e1, e2, e3⟩ := hz.z h0
    simp only at h0 e1 e2 e3
    subst h0; subst e1; subst e2; subst e3
    exact ⟨out, (Except.ok.inj h).symm⟩
  · split at h
    · cases h
    · exact ⟨_, (Except.ok.inj h).symm⟩
theorem runP_strip_err : ∀ {T U : List S69} (s : PS), T.map stripT = U.map stripT → ∀ {x : Int × Int}, runP T s = .error x → ∃ p, runP U s = .error (p, x.2)
  | [], [], s, _, x, h => by cases h
  | [], u :: U, s, h, x, _ => by cases h
  | t :: T, [], s, h, x, _ => by cases h
  | t :: T, u :: U, s, h, x, hr => by
    rw [List.map_cons, List.map_cons, List.cons.injEq] at h
    rw [runP] at hr ⊢
    rw [← stepP_strip s h.1]
    cases hs : stepP s t with
    | error e =>
      rw [hs] at hr
      rw [← Except.error.inj hr]
      exact ⟨_, rfl⟩
    | ok s1 =>
      rw [hs] at hr
      exact runP_strip_err s1 h.2 hr
end Go.Proofs.YtonlbeonblpblaaDoor.Pl
