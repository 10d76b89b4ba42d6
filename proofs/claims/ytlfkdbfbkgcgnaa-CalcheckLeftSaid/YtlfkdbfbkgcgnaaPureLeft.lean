/-
  The law CalcheckLeft in plain Lean: it tells true of any list of rules.
-/
import Derived.Test.YtlfkdbfbkgcgnaaMarks
import Derived.Test.YtlfkdbfbkgcgnaaCheckB
import Derived.Test.YtlfkdbfbkgcgnaaAllx14
import Derived.Test.YtlfkdbfbkgcgnaaAllx15
namespace Go.Proofs.Ytlfkdbfbkgcgnaa.Pl
open Go.RowKit Go.Proofs.Ytlfkdbfbkgcgnaa.All Go.Proofs.YtlfkdbfbkgcgnaaW.PrintWords
set_option linter.unusedVariables false
set_option linter.unusedSimpArgs false

def is3 (c : S30) : Bool := decide (c.f2 = 3)
def ndl (l : List S33) : List Bool := marks is3 (chk l l.length) (List.replicate l.length false)
theorem ndl_len (l : List S33) : (ndl l).length = l.length := by simp [ndl, marks_len]
theorem ndl_at (l : List S33) {i : Nat} (hi : i < l.length) : (ndl l).getD i false = true ↔ ∃ j, j < l.length ∧ up l j i = true := by
  unfold ndl
  rw [marks_new _ _ _ _ hi]
  constructor
  · rintro ⟨c, hc, h3, h0⟩
    obtain ⟨a, b, ha, hb, hab, hw, rfl⟩ := mem_chk.1 hc
    simp only [is3, decide_eq_true_eq] at h3
    have h0' : a = i := by simpa using h0
    subst h0'
    exact ⟨b, hb, up_iff.2 ⟨hab, h3⟩⟩
  · rintro ⟨j, hj, hu⟩
    obtain ⟨h1, h2⟩ := up_iff.1 hu
    exact ⟨⟨i, j, whyP (l.getD i z33) (l.getD j z33) (decide (j < i))⟩, mem_chk.2 ⟨i, j, hi, hj, h1, by rw [h2]; decide, rfl⟩, by simp only [is3]; rw [h2]; rfl, by simp⟩

theorem ndl_l0 (l : List S33) (hl : l.length ≤ 100) : ∀ d m : Nat, m + d = (chk l l.length).length → Ev (fun k => erewhilelaw35_needless.l0 k l (marks is3 ((chk l l.length).take m) (List.replicate l.length false)) (chk l l.length) (chk l l.length).length (m : Int)) (ndl l)
  | 0, m, hm => by
    obtain rfl : m = (chk l l.length).length := by omega
    refine ev_succ ?_
    have h1 : ¬ ((chk l l.length).length : Int) < ((chk l l.length).length : Int) := by omega
    simp only [erewhilelaw35_needless.l0, if_neg h1, List.take_length]
    exact ev_some
  | d + 1, m, hm => by
    have ih := ndl_l0 l hl d (m + 1) (by omega)
    have hlen : (chk l l.length).length ≤ 10000 := by
      have h2 := chk_len l l.length
      have h3 : l.length * l.length ≤ 100 * 100 := Nat.mul_le_mul (by omega) (by omega)
      omega
    refine ev_succ ?_
    have h1 : (m : Int) < ((chk l l.length).length : Int) := by omega
    have h0 : (0 : Int) ≤ (m : Int) := by omega
    obtain ⟨a, b, ha, hb, hab, hw, hc⟩ := chk_at (l := l) (i := m) (by omega)
    have e : rd_T30 (chk l l.length) m = ⟨a, b, whyP (l.getD a z33) (l.getD b z33) (decide (b < a))⟩ := hc
    rw [marks_take _ _ _ _ (by omega), hc] at ih
    simp only [erewhilelaw35_needless.l0, if_pos h1, if_pos h0, wrap_succ m (by omega), e]
    generalize whyP (l.getD a z33) (l.getD b z33) (decide (b < a)) = v at *
    by_cases h3 : v = 3
    · have a0 : (a : Int) ≥ 0 := by omega
      have a1 : (a : Int) < (l.length : Int) := by omega
      have a2 : (a : Int) < ((marks is3 ((chk l l.length).take m) (List.replicate l.length false)).length : Int) := by rw [marks_len]; simp; omega
      have a3 : (0 : Int) ≤ (a : Int) := by omega
      simp only [if_pos h3, if_pos a0, if_pos a1, if_pos a2, if_pos a3]
      simpa [is3, h3] using ih
    · simp only [if_neg h3]
      simpa [is3, h3] using ih

theorem ndl_ev (l : List S33) (hl : l.length ≤ 100) : Ev (fun k => erewhilelaw35_needless.f k l) (ndl l) := by
  have h0 : (0 : Int) ≤ (l.length : Int) := by omega
  have h1 : ((l.length : Int)).toNat ≤ 281474976710656 := by omega
  simp only [erewhilelaw35_needless.f, if_pos h0, if_pos h1]
  refine Ev.bind (check_ev l (by omega)) ?_
  have := ndl_l0 l hl (chk l l.length).length 0 (by omega)
  simpa [marks] using this

/-! ### the loops of the law -/
theorem left_l1 (x0 x3 : List S33) (x4 xs : List Bool) (hx : xs.length ≤ 1000) (hn : ∀ i, i < xs.length → xs.getD i false = false) (hr : Ev (fun k => erewhilelaw35_CalcheckLeft.l2 k x3 x4 x0 x0.length 0) true) :
    ∀ d i : Nat, i + d = xs.length → Ev (fun k => erewhilelaw35_CalcheckLeft.l1 k x0 x3 x4 xs xs.length (i : Int)) true
  | 0, i, hi => by
    obtain rfl : i = xs.length := by omega
    refine ev_succ ?_
    have h1 : ¬ (xs.length : Int) < (xs.length : Int) := by omega
    simp only [erewhilelaw35_CalcheckLeft.l1, if_neg h1]
    exact hr
  | d + 1, i, hi => by
    have ih := left_l1 x0 x3 x4 xs hx hn hr d (i + 1) (by omega)
    refine ev_succ ?_
    have h1 : (i : Int) < (xs.length : Int) := by omega
    have h0 : (0 : Int) ≤ (i : Int) := by omega
    have e : rdOf false xs i = false := hn i (by omega)
    simp only [erewhilelaw35_CalcheckLeft.l1, if_pos h1, if_pos h0, e, Bool.false_eq_true, if_false, wrap_succ i (by omega)]
    exact ih

theorem left_l3 (x3 : List S33) (h3 : x3.length ≤ 1000) (x4 : List Bool) (x47 : List S33) (x48 : Int) (i : Nat) (hi : i < 1000) (r : S33)
    (hr : Ev (fun k => erewhilelaw35_CalcheckLeft.l2 k x3 x4 x47 x48 ((i + 1 : Nat) : Int)) true) :
    ∀ (d m : Nat) (b : Bool), m + d = x3.length → (b = true ∨ ∃ j, m ≤ j ∧ j < x3.length ∧ cov (x3.getD j z33) r = true) →
      Ev (fun k => erewhilelaw35_CalcheckLeft.l3 k x3 x4 b x47 x48 i x3 x3.length (m : Int) r.f0 r.f1 r.f2) true
  | 0, m, b, hm, hb => by
    obtain rfl : m = x3.length := by omega
    refine ev_succ ?_
    have h1 : ¬ (x3.length : Int) < (x3.length : Int) := by omega
    have hb' : b = true := by
      rcases hb with hb | ⟨j, h1, h2, _⟩
      · exact hb
      · omega
    simp only [erewhilelaw35_CalcheckLeft.l3, if_neg h1, hb', if_true, wrap_succ i (by omega)]
    exact hr
  | d + 1, m, b, hm, hb => by
    refine ev_succ ?_
    have h1 : (m : Int) < (x3.length : Int) := by omega
    have h0 : (0 : Int) ≤ (m : Int) := by omega
    simp only [erewhilelaw35_CalcheckLeft.l3, if_pos h1, if_pos h0, wrap_succ m (by omega)]
    cases b with
    | true =>
      simp only [if_true]
      exact left_l3 x3 h3 x4 x47 x48 i hi r hr d (m + 1) true (by omega) (Or.inl rfl)
    | false =>
      simp only [Bool.false_eq_true, if_false]
      have e : rd_T33 x3 m = x3.getD m z33 := rfl
      rw [e]
      refine Ev.bind (rcovers_eq (x3.getD m z33) r) ?_
      refine left_l3 x3 h3 x4 x47 x48 i hi r hr d (m + 1) _ (by omega) ?_
      rcases hb with hb | ⟨j, hj1, hj2, hj3⟩
      · cases hb
      · by_cases hjm : j = m
        · subst hjm; exact Or.inl hj3
        · exact Or.inr ⟨j, by omega, hj2, hj3⟩

theorem left_l2 (x0 x3 : List S33) (h3 : x3.length ≤ 1000) (x4 : List Bool) (h0 : x0.length ≤ 1000) (h4 : x4.length = x0.length)
    (hc : ∀ i, i < x0.length → x4.getD i false = true → ∃ j, j < x3.length ∧ cov (x3.getD j z33) (x0.getD i z33) = true) :
    ∀ d i : Nat, i + d = x0.length → Ev (fun k => erewhilelaw35_CalcheckLeft.l2 k x3 x4 x0 x0.length (i : Int)) true
  | 0, i, hi => by
    obtain rfl : i = x0.length := by omega
    refine ev_succ ?_
    have h1 : ¬ (x0.length : Int) < (x0.length : Int) := by omega
    simp only [erewhilelaw35_CalcheckLeft.l2, if_neg h1]
    exact ev_some
  | d + 1, i, hi => by
    have ih := left_l2 x0 x3 h3 x4 h0 h4 hc d (i + 1) (by omega)
    refine ev_succ ?_
    have h1 : (i : Int) < (x0.length : Int) := by omega
    have h2 : (i : Int) < (x4.length : Int) := by omega
    have h0 : (0 : Int) ≤ (i : Int) := by omega
    simp only [erewhilelaw35_CalcheckLeft.l2, if_pos h1, if_pos h0, if_pos h2]
    have e : rd_T33 x0 i = x0.getD i z33 := rfl
    have e2 : rdOf false x4 i = x4.getD i false := rfl
    rw [e, e2]
    refine left_l3 x3 h3 x4 x0 x0.length i (by omega) _ ih x3.length 0 _ (by omega) ?_
    cases hx : x4.getD i false with
    | false => exact Or.inl rfl
    | true =>
      obtain ⟨j, hj, hcj⟩ := hc i (by omega) hx
      exact Or.inr ⟨j, by omega, hj, hcj⟩

theorem pick_take (l : List S33) (sel : Nat → Bool) (m : Nat) : (idx sel (m + 1)).map (fun i => l.getD i z33) = (idx sel m).map (fun i => l.getD i z33) ++ (if sel m = true then [l.getD m z33] else []) := by
  rw [idx_succ]
  cases h : sel m <;> simp

theorem left_l0 (l : List S33) (hl : l.length ≤ 100) (out : List Bool) (ho : out.length = l.length)
    (hr : Ev (fun k => (erewhilelaw35_needless.f k (pick l (fun i => !out.getD i false))).bind fun t => erewhilelaw35_CalcheckLeft.l1 k l (pick l (fun i => !out.getD i false)) out t (t.length : Int) 0) true) :
    ∀ d i : Nat, i + d = l.length → Ev (fun k => erewhilelaw35_CalcheckLeft.l0 k l ((idx (fun i => !out.getD i false) i).map (fun i => l.getD i z33)) out l l.length (i : Int)) true
  | 0, i, hi => by
    obtain rfl : i = l.length := by omega
    refine ev_succ ?_
    have h1 : ¬ (l.length : Int) < (l.length : Int) := by omega
    simp only [erewhilelaw35_CalcheckLeft.l0, if_neg h1]
    exact hr
  | d + 1, i, hi => by
    have ih := left_l0 l hl out ho hr d (i + 1) (by omega)
    refine ev_succ ?_
    have h1 : (i : Int) < (l.length : Int) := by omega
    have h2 : (i : Int) < (out.length : Int) := by omega
    have h0 : (0 : Int) ≤ (i : Int) := by omega
    have e : rd_T33 l i = l.getD i z33 := rfl
    have e2 : rdOf false out i = out.getD i false := rfl
    have hlen : ((idx (fun i => !out.getD i false) i).map (fun i => l.getD i z33)).length < 5864062014805 := by
      rw [List.length_map]
      have := rank_le (fun i => !out.getD i false) i
      unfold rank at this
      omega
    simp only [erewhilelaw35_CalcheckLeft.l0, if_pos h1, if_pos h0, if_pos h2, e, e2, wrap_succ i (by omega)]
    rw [pick_take] at ih
    cases hx : out.getD i false with
    | true =>
      simp only [if_true]
      simpa [-List.getD_eq_getElem?_getD, hx] using ih
    | false =>
      simp only [Bool.false_eq_true, if_false, if_pos hlen]
      simpa [-List.getD_eq_getElem?_getD, hx] using ih

theorem left_pure (l : List S33) : Ev (fun k => erewhilelaw35_CalcheckLeft.f k l) true := by
  simp only [erewhilelaw35_CalcheckLeft.f]
  refine Ev.bind awake_ev ?_
  simp only [if_true]
  by_cases h : (l.length : Int) > 30
  · simp only [if_pos h]
    exact ev_some
  · have hl : l.length ≤ 100 := by omega
    simp only [if_neg h]
    refine Ev.bind (ndl_ev l hl) ?_
    have hsub : (pick l (fun i => !(ndl l).getD i false)).length ≤ l.length := by rw [pick_len]; exact rank_le _ _
    refine left_l0 l hl (ndl l) (ndl_len l) ?_ l.length 0 (by omega)
    refine Ev.bind (ndl_ev _ (by omega)) ?_
    refine left_l1 _ _ _ _ (by rw [ndl_len]; omega) ?_ ?_ _ 0 (Nat.zero_add _)
    · intro p hp
      rw [ndl_len] at hp
      cases hx : (ndl (pick l (fun i => !(ndl l).getD i false))).getD p false with
      | false => rfl
      | true =>
        exfalso
        obtain ⟨c, hc, h3, _⟩ := (marks_new _ _ _ _ hp).1 hx
        rw [chk_pick] at hc
        obtain ⟨c', hc', hm⟩ := List.mem_filterMap.1 hc
        unfold moved at hm
        split at hm
        · rename_i hs
          injection hm with hm
          subst hm
          obtain ⟨a, b, ha, hb, hab, hw, rfl⟩ := mem_chk.1 hc'
          simp only [Int.toNat_natCast, Bool.and_eq_true, Bool.not_eq_true'] at hs
          simp only [is3, decide_eq_true_eq] at h3
          have : (ndl l).getD a false = true := (ndl_at l ha).2 ⟨b, hb, up_iff.2 ⟨hab, h3⟩⟩
          rw [this] at hs
          cases hs.1
        · cases hm
    · refine left_l2 _ _ (by omega) _ (by omega) (ndl_len l) (fun i hi hx => ?_) _ 0 (Nat.zero_add _)
      obtain ⟨j, hj, hoj, hcj⟩ := left_covers l (fun i => (ndl l).getD i false) (fun i hi => ndl_at l hi) _ i hi (Nat.le_refl _) hx
      have hs : (fun i => !(ndl l).getD i false) j = true := by simpa using hoj
      exact ⟨rank _ j, pick_rank_lt l _ hs hj, by rw [pick_at l _ hs hj]; exact hcj⟩
end Go.Proofs.Ytlfkdbfbkgcgnaa.Pl
