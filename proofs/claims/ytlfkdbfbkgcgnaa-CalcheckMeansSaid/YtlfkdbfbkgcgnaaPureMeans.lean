/-
  The law CalcheckMeans in plain Lean: it tells true of any list of rules and any three numbers of 32 bits.
-/
import Derived.Test.YtlfkdbfbkgcgnaaMarks
import Derived.Test.YtlfkdbfbkgcgnaaMeansWalk
namespace Go.Proofs.Ytlfkdbfbkgcgnaa.Pl
open Go.RowKit Go.Proofs.Ytlfkdbfbkgcgnaa.All Go.Proofs.YtlfkdbfbkgcgnaaW.PrintWords
set_option linter.unusedVariables false
set_option linter.unusedSimpArgs false

def stP (r : S33) (w g now : Int) : Bool :=
  if now ≥ w + r.f2 then false
  else if r.f0 = 1 then true
  else if r.f0 = 2 then (if r.f1 ≥ 1 then (if g < 0 then true else (w + g) / r.f1 != w / r.f1) else false)
  else if r.f0 = 3 then (if r.f1 ≥ 0 then (if g < 0 then true else decide (g > r.f1)) else false)
  else false

theorem stays_eq (r : S33) (w g now : Int) (hw : 0 ≤ w) (hw2 : w ≤ 1073741824) (hg2 : g ≤ 1073741824) (hf : 0 ≤ r.f2) (hf2 : r.f2 ≤ 1073741824) :
    erewhilelaw35_stays.f r.f0 r.f1 r.f2 w g now = some (stP r w g now) := by
  unfold erewhilelaw35_stays.f stP
  have e : wrap64 (w + r.f2) = w + r.f2 := by unfold wrap64; omega
  rw [e]
  by_cases h1 : now ≥ w + r.f2
  · rw [if_pos h1, if_pos h1]
  · rw [if_neg h1, if_neg h1]
    by_cases h2 : r.f0 = 1
    · rw [if_pos h2, if_pos h2]
    · rw [if_neg h2, if_neg h2]
      by_cases h3 : r.f0 = 2
      · rw [if_pos h3, if_pos h3]
        by_cases h4 : r.f1 ≥ 1
        · rw [if_pos h4, if_pos h4]
          by_cases h5 : g < 0
          · rw [if_pos h5, if_pos h5]
          · rw [if_neg h5, if_neg h5, if_neg (by omega)]
            have e1 : wrap64 (w + g) = w + g := by unfold wrap64; omega
            have e2 : Int.tdiv (w + g) r.f1 = (w + g) / r.f1 := Int.tdiv_eq_ediv_of_nonneg (by omega)
            have e3 : Int.tdiv w r.f1 = w / r.f1 := Int.tdiv_eq_ediv_of_nonneg (by omega)
            have b1 : (w + g) / r.f1 ≤ w + g := Int.ediv_le_self _ (by omega)
            have b2 : w / r.f1 ≤ w := Int.ediv_le_self _ (by omega)
            have b3 : 0 ≤ (w + g) / r.f1 := Int.ediv_nonneg (by omega) (by omega)
            have b4 : 0 ≤ w / r.f1 := Int.ediv_nonneg (by omega) (by omega)
            rw [e1, e2, e3]
            generalize (w + g) / r.f1 = x at *
            generalize w / r.f1 = y at *
            have e4 : wrap64 x = x := by unfold wrap64; omega
            have e5 : wrap64 y = y := by unfold wrap64; omega
            rw [e4, e5]
        · rw [if_neg h4, if_neg h4]
      · rw [if_neg h3, if_neg h3]
        by_cases h6 : r.f0 = 3
        · rw [if_pos h6, if_pos h6]
          by_cases h4 : r.f1 ≥ 0
          · rw [if_pos h4, if_pos h4]
            by_cases h5 : g < 0
            · rw [if_pos h5, if_pos h5]
            · rw [if_neg h5, if_neg h5]
          · rw [if_neg h4, if_neg h4]
        · rw [if_neg h6, if_neg h6]

/-- Needless is needless. -/
theorem stays_cov {a b : S33} {w g now : Int} (hc : cov b a = true) (h : stP a w g now = true) : stP b w g now = true := by
  obtain ⟨kb, ka, hf, hfit⟩ := cov_parts.1 hc
  unfold stP at *
  by_cases h1 : now ≥ w + a.f2
  · rw [if_pos h1] at h; cases h
  · rw [if_neg h1] at h
    rw [if_neg (by omega)]
    unfold fit at hfit
    by_cases h2 : b.f0 = 1
    · rw [if_pos h2]
    · rw [if_neg h2] at hfit ⊢
      by_cases h3 : b.f0 = a.f0
      · rw [if_pos h3] at hfit
        rw [if_neg (by omega)] at h
        by_cases h4 : b.f0 = 2
        · rw [if_pos h4, tmod_dvd] at hfit
          rw [if_pos (by omega)] at h
          rw [if_pos h4]
          by_cases h5 : a.f1 ≥ 1
          · rw [if_pos h5] at h
            have hb1 : b.f1 ≥ 1 := by
              simp [kp, h4] at kb
              exact kb
            rw [if_pos hb1]
            by_cases h6 : g < 0
            · rw [if_pos h6]
            · rw [if_neg h6] at h ⊢
              rw [bne_iff_ne] at *
              intro he
              apply h
              obtain ⟨m, hm⟩ := hfit
              rw [hm, ← Int.ediv_ediv_of_nonneg (by omega), ← Int.ediv_ediv_of_nonneg (by omega), he]
          · rw [if_neg h5] at h; cases h
        · rw [if_neg h4] at hfit ⊢
          rw [if_neg (by omega)] at h
          by_cases h5 : b.f0 = 3
          · rw [if_pos (by omega)] at h
            rw [if_pos h5]
            have hb1 : b.f1 ≥ 0 := by
              simp [kp, h5] at kb
              exact kb
            rw [if_pos hb1]
            simp only [decide_eq_true_eq] at hfit
            by_cases h6 : a.f1 ≥ 0
            · rw [if_pos h6] at h
              by_cases h7 : g < 0
              · rw [if_pos h7]
              · rw [if_neg h7] at h ⊢
                simp only [decide_eq_true_eq] at *
                omega
            · rw [if_neg h6] at h; cases h
          · rw [if_neg (by omega)] at h; cases h
      · rw [if_neg h3] at hfit; cases hfit

theorem why1 {a b : S33} {gt : Bool} (h : whyP a b gt = 1) : b.f0 = 4 ∧ b.f2 < a.f2 := by
  unfold whyP at h
  split at h
  · rename_i hc
    simp [Bool.and_eq_true] at hc
    exact ⟨hc.1.2, hc.2⟩
  · split at h
    · omega
    · split at h <;> omega

theorem means_l2 (l : List S33) (hall : ∀ i, i < l.length → 0 ≤ (l.getD i z33).f2 ∧ (l.getD i z33).f2 ≤ 1073741824) (w g now : Int) (hw : 0 ≤ w) (hw2 : w ≤ 1073741824) (hg : g ≤ 1073741824) (hg0 : 0 ≤ g) (hn : 0 ≤ now ∧ now ≤ 1073741824)
    (cs : List S30) (x56 x57 : Int) (a b : Nat) (ha : a < l.length) (hb : b < l.length) (v : Int)
    (hv3 : v = 3 → cov (l.getD b z33) (l.getD a z33) = true) (hv1 : v = 1 → (l.getD b z33).f0 = 4 ∧ (l.getD b z33).f2 < (l.getD a z33).f2)
    (hr : Ev (fun k => erewhilelaw35_CalcheckMeans.l1 k l w g now cs x56 (wrap64 (x57 + 1))) true) :
    ∀ d m : Nat, m + d = 2 → Ev (fun k => erewhilelaw35_CalcheckMeans.l2 k l w g now cs x56 x57 [-1, g] 2 (m : Int) a b v) true
  | 0, m, hm => by
    obtain rfl : m = 2 := by omega
    refine ev_succ ?_
    have h1 : ¬ ((2 : Nat) : Int) < 2 := by omega
    have a0 : (0 : Int) ≤ (a : Int) := by omega
    have b0 : (0 : Int) ≤ (b : Int) := by omega
    have a1 : (a : Int) < (l.length : Int) := by omega
    have b1 : (b : Int) < (l.length : Int) := by omega
    have ea : rd_T33 l a = l.getD a z33 := rfl
    have eb : rd_T33 l b = l.getD b z33 := rfl
    simp only [erewhilelaw35_CalcheckMeans.l2, if_neg h1, if_pos a0, if_pos b0, if_pos a1, if_pos b1, ea, eb]
    by_cases hv : v = 1
    · obtain ⟨q1, q2⟩ := hv1 hv
      have q3 : ¬ (l.getD b z33).f2 ≥ (l.getD a z33).f2 := by omega
      simp only [if_pos hv, if_pos q1, if_neg q3]
      exact hr
    · simp only [if_neg hv]
      exact hr
  | d + 1, m, hm => by
    have ih := means_l2 l hall w g now hw hw2 hg hg0 hn cs x56 x57 a b ha hb v hv3 hv1 hr d (m + 1) (by omega)
    refine ev_succ ?_
    have h1 : (m : Int) < 2 := by omega
    have h0 : (0 : Int) ≤ (m : Int) := by omega
    have h2 : (m : Int) < (([-1, g] : List Int).length : Int) := by simp; omega
    have a0 : (0 : Int) ≤ (a : Int) := by omega
    have b0 : (0 : Int) ≤ (b : Int) := by omega
    have a1 : (a : Int) < (l.length : Int) := by omega
    have b1 : (b : Int) < (l.length : Int) := by omega
    have ea : rd_T33 l a = l.getD a z33 := rfl
    have eb : rd_T33 l b = l.getD b z33 := rfl
    have ew : wrap64 w = w := by unfold wrap64; omega
    have en : wrap64 now = now := by unfold wrap64; omega
    have hgm : rd [-1, g] m ≤ 1073741824 := by
      have : m = 0 ∨ m = 1 := by omega
      rcases this with rfl | rfl
      · show (-1 : Int) ≤ _; omega
      · exact hg
    have sa := stays_eq (l.getD a z33) w (rd [-1, g] m) now hw hw2 hgm (hall a ha).1 (hall a ha).2
    have sb := stays_eq (l.getD b z33) w (rd [-1, g] m) now hw hw2 hgm (hall b hb).1 (hall b hb).2
    simp only [erewhilelaw35_CalcheckMeans.l2, if_pos h1, if_pos h0, if_pos h2, if_pos a0, if_pos b0, if_pos a1, if_pos b1, ea, eb, ew, en, sa, sb, Option.bind_some, wrap_succ m (by omega)]
    by_cases hv : v = 3
    · simp only [if_pos hv]
      cases hs : stP (l.getD a z33) w (rd [-1, g] m) now with
      | true =>
        have := stays_cov (hv3 hv) hs
        simp only [if_true, this]
        exact ih
      | false =>
        simp only [Bool.false_eq_true, if_false]
        exact ih
    · simp only [if_neg hv]
      exact ih

theorem means_l1 (l : List S33) (hl : l.length ≤ 100) (hall : ∀ i, i < l.length → 0 ≤ (l.getD i z33).f2 ∧ (l.getD i z33).f2 ≤ 1073741824) (w g now : Int) (hw : 0 ≤ w) (hw2 : w ≤ 1073741824) (hg : g ≤ 1073741824) (hg0 : 0 ≤ g) (hn : 0 ≤ now ∧ now ≤ 1073741824) :
    ∀ d m : Nat, m + d = (chk l l.length).length → Ev (fun k => erewhilelaw35_CalcheckMeans.l1 k l w g now (chk l l.length) (chk l l.length).length (m : Int)) true
  | 0, m, hm => by
    obtain rfl : m = (chk l l.length).length := by omega
    refine ev_succ ?_
    have h1 : ¬ ((chk l l.length).length : Int) < ((chk l l.length).length : Int) := by omega
    simp only [erewhilelaw35_CalcheckMeans.l1, if_neg h1]
    exact ev_some
  | d + 1, m, hm => by
    have ih := means_l1 l hl hall w g now hw hw2 hg hg0 hn d (m + 1) (by omega)
    have hlen : (chk l l.length).length ≤ 10000 := by
      have h2 := chk_len l l.length
      have h3 : l.length * l.length ≤ 100 * 100 := Nat.mul_le_mul (by omega) (by omega)
      omega
    refine ev_succ ?_
    have h1 : (m : Int) < ((chk l l.length).length : Int) := by omega
    have h0' : (0 : Int) ≤ (m : Int) := by omega
    obtain ⟨a, b, ha, hb, hab, hw', hc⟩ := chk_at (l := l) (i := m) (by omega)
    have e : rd_T30 (chk l l.length) m = ⟨a, b, whyP (l.getD a z33) (l.getD b z33) (decide (b < a))⟩ := hc
    have a0 : ¬ (a : Int) < 0 := by omega
    have b0 : ¬ (b : Int) < 0 := by omega
    have a1 : ¬ (a : Int) ≥ (l.length : Int) := by omega
    have b1 : ¬ (b : Int) ≥ (l.length : Int) := by omega
    simp only [erewhilelaw35_CalcheckMeans.l1, if_pos h1, if_pos h0', e, if_neg a0, if_neg b0, if_neg a1, decide_eq_false b1]
    refine ev_succ ?_
    have eg : wrap64 g = g := by unfold wrap64; omega
    simp only [erewhilelaw35_CalcheckMeans.j3, Bool.false_eq_true, if_false, Option.bind_some, eg]
    refine means_l2 l hall w g now hw hw2 hg hg0 hn (chk l l.length) _ _ a b ha hb _ (fun h3 => (why3.1 h3).1) (fun h1 => why1 h1) ?_ 2 0 (by omega)
    rw [wrap_succ m (by omega)]
    exact ih

theorem means_l0 (l : List S33) (hl : l.length ≤ 100) (w g now : Int) (hw : 0 ≤ w) (hw2 : w ≤ 1073741824) (hg : g ≤ 1073741824) (hg0 : 0 ≤ g) (hn : 0 ≤ now ∧ now ≤ 1073741824) :
    ∀ d i : Nat, i + d = l.length → (∀ j, j < i → 0 ≤ (l.getD j z33).f2 ∧ (l.getD j z33).f2 ≤ 1073741824) → Ev (fun k => erewhilelaw35_CalcheckMeans.l0 k l w g now l l.length (i : Int)) true
  | 0, i, hi, hall => by
    obtain rfl : i = l.length := by omega
    refine ev_succ ?_
    have h1 : ¬ (l.length : Int) < (l.length : Int) := by omega
    simp only [erewhilelaw35_CalcheckMeans.l0, if_neg h1]
    refine Ev.bind (check_ev l (by omega)) ?_
    exact means_l1 l hl hall w g now hw hw2 hg hg0 hn _ 0 (Nat.zero_add _)
  | d + 1, i, hi, hall => by
    refine ev_succ ?_
    have h1 : (i : Int) < (l.length : Int) := by omega
    have h0' : (0 : Int) ≤ (i : Int) := by omega
    have e : rd_T33 l i = l.getD i z33 := rfl
    simp only [erewhilelaw35_CalcheckMeans.l0, if_pos h1, if_pos h0', e, wrap_succ i (by omega)]
    by_cases c1 : (l.getD i z33).f2 < 0
    · simp only [if_pos c1]; exact ev_some
    · by_cases c2 : (l.getD i z33).f2 > 1073741824
      · simp only [if_neg c1, if_pos c2]; exact ev_some
      · by_cases c3 : (l.getD i z33).f1 > 1073741824
        · simp only [if_neg c1, if_neg c2, if_pos c3]; exact ev_some
        · simp only [if_neg c1, if_neg c2, if_neg c3]
          refine means_l0 l hl w g now hw hw2 hg hg0 hn d (i + 1) (by omega) (fun j hj => ?_)
          by_cases hji : j < i
          · exact hall j hji
          · obtain rfl : j = i := by omega
            exact ⟨by omega, by omega⟩

theorem u32_wf {a : Int} (h : (Lit.int .u32 a).wf = true) : 0 ≤ a := by
  simp [Lit.wf, IntKind.min, IntKind.max, IntKind.signed, IntKind.bits] at h
  omega

theorem means_pure (l : List S33) (w g now : Int) (hw : (Lit.int .u32 w).wf = true) (hg : (Lit.int .u32 g).wf = true) (hn : (Lit.int .u32 now).wf = true) : Ev (fun k => erewhilelaw35_CalcheckMeans.f k l w g now) true := by
  have w0 := u32_wf hw
  have g0 := u32_wf hg
  have n0 := u32_wf hn
  have key : Ev (fun k => erewhilelaw35_CalcheckMeans.j0 k l w g now true) true := by
    refine ev_succ ?_
    simp only [erewhilelaw35_CalcheckMeans.j0, if_true]
    exact ev_some
  simp only [erewhilelaw35_CalcheckMeans.f]
  refine Ev.bind awake_ev ?_
  simp only [if_true]
  by_cases h : (l.length : Int) > 30
  · simp only [if_pos h]; exact key
  · by_cases h1 : w > 1073741824
    · simp only [if_neg h, if_pos h1]; exact key
    · by_cases h2 : g > 1073741824
      · simp only [if_neg h, if_neg h1, if_pos h2]; exact key
      · simp only [if_neg h, if_neg h1, if_neg h2]
        by_cases h3 : now > 1073741824
        · rw [decide_eq_true h3]; exact key
        · rw [decide_eq_false h3]
          refine ev_succ ?_
          simp only [erewhilelaw35_CalcheckMeans.j0, Bool.false_eq_true, if_false]
          exact means_l0 l (by omega) w g now w0 (by omega) (by omega) g0 ⟨n0, by omega⟩ l.length 0 (by omega) (fun j hj => absurd hj (by omega))
end Go.Proofs.Ytlfkdbfbkgcgnaa.Pl
