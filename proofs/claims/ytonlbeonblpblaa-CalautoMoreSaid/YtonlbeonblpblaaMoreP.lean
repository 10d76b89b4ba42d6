/-
  Plain: what a rule more does to a moment's last minute. No condition.
-/
import Derived.Test.YtonlbeonblpblaaMono
namespace Go.Proofs.Ytonlbeonblpblaa.All
open Go.RowKit Go.Proofs.YtonlbeonblpblaaW.PrintWords Go.Proofs.YtonlbeonblpblaaW.PrintLast Go.Proofs.YtonlbeonblpblaaW.PrintMore Go.Proofs.Ytonlbeonblpblaa.Wd
set_option linter.unusedVariables false
set_option linter.unusedSimpArgs false
theorem never_snoc (R : List Ru) (r : Ru) : neverF (R ++ [r]) = neverStep (neverF R) r := by
  unfold neverF
  rw [List.foldl_append]
  rfl
theorem ks_snoc (R : List Ru) (r : Ru) : ksOf (R ++ [r]) = ksOf R ++ if r.k = 4 then [] else [r] := by
  unfold ksOf
  rw [List.filter_append]
  by_cases e : r.k = 4 <;> simp [e]
theorem more_ge {R : List Ru} {r : Ru} (rt : Rt (R ++ [r])) (h : r.k ≠ 4) {M : List It} (g : Good M) (num : Int) : tl R M num ≤ tl (R ++ [r]) M num := by
  have hN : neverF (R ++ [r]) = neverF R := by rw [never_snoc]; unfold neverStep; rw [if_neg h]
  have hK : ksOf (R ++ [r]) = ksOf R ++ [r] := by rw [ks_snoc, if_neg h]
  have h0 := (till_pos rt g num).1
  rcases till_cases M num (neverF R) (ksOf R) with ⟨e, _⟩ | ⟨hh, ⟨q, hq, hk, e⟩, _⟩
  · show tillF _ _ _ _ ≤ _
    omega
  · show tillF _ _ _ _ ≤ _
    rw [← e]
    refine till_max (x := minM M num + spanN (neverF R) q) ((mins_mem _ _ _ _ _).2 ⟨hh, q, ?_, hk, ?_⟩)
    · rw [hK]; exact List.mem_append_left _ hq
    · rw [hN]
theorem span_never {N : Int × Bool} {r q : Ru} (h : r.k = 4) : spanN (neverStep N r) q = min (spanN N q) r.f := by
  obtain ⟨n, b⟩ := N
  unfold neverStep spanN
  rw [if_pos h]
  cases b with
  | false => simp
  | true =>
    by_cases hf : r.f < n
    · simp [hf]; omega
    · simp [hf]; omega
theorem more_never {R : List Ru} {r : Ru} (rt : Rt R) (hr : rightB r = true) (h : r.k = 4) {M : List It} (g : Good M) (num : Int) : tl (R ++ [r]) M num ≤ tl R M num ∧ (hit M num = true → tl (R ++ [r]) M num ≤ minM M num + r.f ∧ (tl (R ++ [r]) M num = tl R M num ∨ tl (R ++ [r]) M num = minM M num + r.f)) := by
  have hN : neverF (R ++ [r]) = neverStep (neverF R) r := never_snoc R r
  have hK : ksOf (R ++ [r]) = ksOf R := by rw [ks_snoc, if_pos h, List.append_nil]
  have hw := (minM_rng g num).1
  have hf := (rightB_f hr).1
  show tillF M num (neverF (R ++ [r])) (ksOf (R ++ [r])) ≤ tillF M num (neverF R) (ksOf R) ∧ (_ → tillF M num (neverF (R ++ [r])) (ksOf (R ++ [r])) ≤ _ ∧ (tillF M num (neverF (R ++ [r])) (ksOf (R ++ [r])) = tillF M num (neverF R) (ksOf R) ∨ tillF M num (neverF (R ++ [r])) (ksOf (R ++ [r])) = _))
  rw [hN, hK]
  rcases till_cases M num (neverStep (neverF R) r) (ksOf R) with ⟨e1, k1⟩ | ⟨hh, ⟨q1, hq1, hk1, e1⟩, m1⟩ <;> rcases till_cases M num (neverF R) (ksOf R) with ⟨e2, k2⟩ | ⟨hh2, ⟨q2, hq2, hk2, e2⟩, m2⟩
  · rw [e1, e2]
    exact ⟨Int.le_refl _, fun _ => ⟨by omega, .inl rfl⟩⟩
  · have := k1 hh2 q2 hq2
    rw [hk2] at this
    cases this
  · have := k2 hh q1 hq1
    rw [hk1] at this
    cases this
  · have a1 := m1 q2 hq2 hk2
    have a2 := m2 q1 hq1 hk1
    rw [span_never h] at e1 a1
    refine ⟨by omega, fun _ => ⟨by omega, ?_⟩⟩
    omega
end Go.Proofs.Ytonlbeonblpblaa.All
