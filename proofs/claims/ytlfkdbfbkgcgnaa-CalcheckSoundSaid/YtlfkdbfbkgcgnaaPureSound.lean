/-
  The law CalcheckSound in plain Lean: it tells true of any list of rules and any byte.
-/
import Derived.Test.YtlfkdbfbkgcgnaaMarks
import Derived.Test.YtlfkdbfbkgcgnaaAllx21
namespace Go.Proofs.Ytlfkdbfbkgcgnaa.Pl
open Go.RowKit Go.Proofs.Ytlfkdbfbkgcgnaa.All Go.Proofs.YtlfkdbfbkgcgnaaW.PrintWords
set_option linter.unusedVariables false
set_option linter.unusedSimpArgs false

def every (_ : S30) : Bool := true
theorem idx_ne (k : Nat) : ∀ n, (idx (fun i => decide (i ≠ k)) n) = if k < n then List.range k ++ (List.range (n - (k + 1))).map (fun i => k + 1 + i) else List.range n
  | 0 => by simp [idx]
  | n + 1 => by
    have ih := idx_ne k n
    rw [idx_succ]
    by_cases h : k < n
    · have e1 : (fun i => decide (i ≠ k)) n = true := by
        simp
        omega
      rw [if_pos h] at ih
      rw [if_pos e1, ih, if_pos (show k < n + 1 by omega), show n + 1 - (k + 1) = (n - (k + 1)) + 1 by omega, List.range_succ (n := n - (k + 1)), List.map_append, ← List.append_assoc]
      congr 1
      simp
      omega
    · rw [if_neg h] at ih
      by_cases h2 : k = n
      · subst h2
        have e1 : ¬ (fun i => decide (i ≠ k)) k = true := by simp
        rw [if_neg e1, ih, if_pos (show k < k + 1 by omega)]
        simp
      · have e1 : (fun i => decide (i ≠ k)) n = true := by
          simp
          omega
        rw [if_pos e1, ih, if_neg (show ¬ k < n + 1 by omega), List.range_succ]
theorem pick_ne (l : List S33) (k : Nat) (h : k < l.length) : pick l (fun i => decide (i ≠ k)) = l.take k ++ l.drop (k + 1) := by
  unfold pick
  rw [idx_ne, if_pos h, List.map_append]
  congr 1
  · apply List.ext_getElem?
    intro i
    by_cases hi : i < k
    · simp [hi, List.getElem?_take, List.getD_eq_getElem?_getD, List.getElem?_eq_getElem (show i < l.length by omega)]
    · simp [hi, List.getElem?_take]
  · apply List.ext_getElem?
    intro i
    by_cases hi : i < l.length - (k + 1)
    · simp [hi, List.getElem?_drop, List.getD_eq_getElem?_getD, List.getElem?_eq_getElem (show k + 1 + i < l.length by omega)]
    · simp [List.getElem?_drop]
      rw [List.getElem?_eq_none (by simp; omega)]
      simp
      omega

theorem sound_l1 (x0 x6 : List S33) (h0 : x0.length ≤ 100) (h6 : x6.length ≤ 100) (out : List Bool) (ho : out.length = x0.length)
    (hs : chk (pick x0 (fun i => !out.getD i false)) (pick x0 (fun i => !out.getD i false)).length = []) (hle : (chk x6 x6.length).length ≤ (chk x0 x0.length).length) :
    ∀ d i : Nat, i + d = x0.length → Ev (fun k => erewhilelaw35_CalcheckSound.l1 k x0 x6 out ((idx (fun i => !out.getD i false) i).map (fun i => x0.getD i z33)) x0 x0.length (i : Int)) true
  | 0, i, hi => by
    obtain rfl : i = x0.length := by omega
    refine ev_succ ?_
    have h1 : ¬ (x0.length : Int) < (x0.length : Int) := by omega
    have hsub : (pick x0 (fun i => !out.getD i false)).length ≤ x0.length := by rw [pick_len]; exact rank_le _ _
    simp only [erewhilelaw35_CalcheckSound.l1, if_neg h1]
    refine Ev.bind (sound_ev (pick x0 (fun i => !out.getD i false)) (by omega)) ?_
    rw [hs]
    have e : decide (([] : List S30).length = 0) = true := rfl
    simp only [e, if_true]
    refine Ev.bind (check_ev x6 (by omega)) ?_
    refine Ev.bind (check_ev x0 (by omega)) ?_
    have e2 : decide (((chk x6 x6.length).length : Int) ≤ ((chk x0 x0.length).length : Int)) = true := by
      rw [decide_eq_true_eq]; omega
    rw [e2]
    exact ev_some
  | d + 1, i, hi => by
    have ih := sound_l1 x0 x6 h0 h6 out ho hs hle d (i + 1) (by omega)
    refine ev_succ ?_
    have h1 : (i : Int) < (x0.length : Int) := by omega
    have h2 : (i : Int) < (out.length : Int) := by omega
    have h0 : (0 : Int) ≤ (i : Int) := by omega
    have e : rd_T33 x0 i = x0.getD i z33 := rfl
    have e2 : rdOf false out i = out.getD i false := rfl
    have hlen : ((idx (fun i => !out.getD i false) i).map (fun i => x0.getD i z33)).length < 5864062014805 := by
      rw [List.length_map]
      have := rank_le (fun i => !out.getD i false) i
      unfold rank at this
      omega
    simp only [erewhilelaw35_CalcheckSound.l1, if_pos h1, if_pos h0, if_pos h2, e, e2, wrap_succ i (by omega)]
    rw [idx_succ] at ih
    cases hx : out.getD i false with
    | true =>
      simp only [if_true]
      simpa [-List.getD_eq_getElem?_getD, hx] using ih
    | false =>
      simp only [Bool.false_eq_true, if_false, if_pos hlen]
      simpa [-List.getD_eq_getElem?_getD, hx] using ih

theorem sound_l0 (x0 x6 : List S33) (h0 : x0.length ≤ 100) (hr : Ev (fun k => erewhilelaw35_CalcheckSound.l1 k x0 x6 (marks every (chk x0 x0.length) (List.replicate x0.length false)) [] x0 x0.length 0) true) :
    ∀ d m : Nat, m + d = (chk x0 x0.length).length → Ev (fun k => erewhilelaw35_CalcheckSound.l0 k x0 x6 (marks every ((chk x0 x0.length).take m) (List.replicate x0.length false)) (chk x0 x0.length) (chk x0 x0.length).length (m : Int)) true
  | 0, m, hm => by
    obtain rfl : m = (chk x0 x0.length).length := by omega
    refine ev_succ ?_
    have h1 : ¬ ((chk x0 x0.length).length : Int) < ((chk x0 x0.length).length : Int) := by omega
    simp only [erewhilelaw35_CalcheckSound.l0, if_neg h1, List.take_length]
    exact hr
  | d + 1, m, hm => by
    have ih := sound_l0 x0 x6 h0 hr d (m + 1) (by omega)
    have hlen : (chk x0 x0.length).length ≤ 10000 := by
      have h2 := chk_len x0 x0.length
      have h3 : x0.length * x0.length ≤ 100 * 100 := Nat.mul_le_mul (by omega) (by omega)
      omega
    refine ev_succ ?_
    have h1 : (m : Int) < ((chk x0 x0.length).length : Int) := by omega
    have h0' : (0 : Int) ≤ (m : Int) := by omega
    obtain ⟨a, b, ha, hb, hab, hw, hc⟩ := chk_at (l := x0) (i := m) (by omega)
    have e : rd_T30 (chk x0 x0.length) m = ⟨a, b, whyP (x0.getD a z33) (x0.getD b z33) (decide (b < a))⟩ := hc
    rw [marks_take _ _ _ _ (by omega), hc] at ih
    have a0 : ¬ (a : Int) < 0 := by omega
    have a1 : ¬ (a : Int) ≥ (x0.length : Int) := by omega
    have a2 : (a : Int) < ((marks every ((chk x0 x0.length).take m) (List.replicate x0.length false)).length : Int) := by rw [marks_len]; simp; omega
    have a3 : (0 : Int) ≤ (a : Int) := by omega
    simp only [erewhilelaw35_CalcheckSound.l0, if_pos h1, if_pos h0', wrap_succ m (by omega), e, if_neg a0, if_neg a1, if_pos a2, if_pos a3]
    simpa [every] using ih

theorem sound_pure (l : List S33) (i : Int) (hi : (Lit.int .u8 i).wf = true) : Ev (fun k => erewhilelaw35_CalcheckSound.f k l i) true := by
  have hi' : 0 ≤ i ∧ i ≤ 255 := by
    have := hi
    simp [Lit.wf, IntKind.min, IntKind.max, IntKind.signed, IntKind.bits] at this
    omega
  simp only [erewhilelaw35_CalcheckSound.f]
  refine Ev.bind awake_ev ?_
  simp only [if_true]
  by_cases h : (l.length : Int) = 0
  · simp only [if_pos h]
    refine ev_succ ?_
    simp only [erewhilelaw35_CalcheckSound.j0, if_true]
    exact ev_some
  · simp only [if_neg h]
    by_cases h2 : (l.length : Int) > 30
    · rw [decide_eq_true h2]
      refine ev_succ ?_
      simp only [erewhilelaw35_CalcheckSound.j0, if_true]
      exact ev_some
    · rw [decide_eq_false h2]
      refine ev_succ ?_
      have hw : wrap64 i = i := by unfold wrap64; omega
      have hm : Int.tmod i (l.length : Int) = i % (l.length : Int) := Int.tmod_eq_emod_of_nonneg hi'.1
      have hm0 : 0 ≤ i % (l.length : Int) := Int.emod_nonneg _ h
      have hm1 : i % (l.length : Int) < (l.length : Int) := Int.emod_lt_of_pos _ (by omega)
      obtain ⟨j, hj⟩ := Int.eq_ofNat_of_zero_le hm0
      have ht : Int.tmod (wrap64 i) (l.length : Int) = (j : Int) := by rw [hw, hm, hj]
      have hjl : j < l.length := by omega
      have c0 : (0 : Int) ≤ (j : Int) := by omega
      have c1 : (j : Int) ≤ (l.length : Int) := by omega
      have c2 : (0 : Int) ≤ ((j + 1 : Nat) : Int) := by omega
      have c3 : ((j + 1 : Nat) : Int) ≤ (l.length : Int) := by omega
      have c4 : ([] : List S33).length + (l.take j).length < 5864062014805 := by simp; omega
      have c5 : (l.take j).length + (l.drop (j + 1)).length < 5864062014805 := by simp; omega
      have hless : pick l (fun i => decide (i ≠ j)) = l.take j ++ l.drop (j + 1) := pick_ne l j hjl
      have hlen : (l.take j ++ l.drop (j + 1)).length ≤ 100 := by simp; omega
      simp only [erewhilelaw35_CalcheckSound.j0, Bool.false_eq_true, if_false, if_neg h, ht, if_pos c0, if_pos c1, wrap_succ j (by omega), if_pos c2, if_pos c3, Option.bind_some, Int.toNat_natCast, if_pos c4, List.nil_append, if_pos c5]
      have key : Ev (fun k => erewhilelaw35_CalcheckSound.j1 k l (l.take j ++ l.drop (j + 1)) false) true := by
        refine ev_succ ?_
        have d0 : (0 : Int) ≤ (l.length : Int) := by omega
        have d1 : ((l.length : Int)).toNat ≤ 281474976710656 := by omega
        simp only [erewhilelaw35_CalcheckSound.j1, Bool.false_eq_true, if_false, if_pos d0, if_pos d1]
        refine Ev.bind (check_ev l (by omega)) ?_
        have hl0 := sound_l0 l (l.take j ++ l.drop (j + 1)) (by omega) ?_ _ 0 (Nat.zero_add _)
        · simpa [marks] using hl0
        · have hl1 := sound_l1 l (l.take j ++ l.drop (j + 1)) (by omega) hlen (marks every (chk l l.length) (List.replicate l.length false)) (by simp [marks_len]) ?_ ?_ _ 0 (Nat.zero_add _)
          · simpa [idx] using hl1
          · rw [chk_pick, List.filterMap_eq_nil_iff]
            intro c hc
            obtain ⟨a, b, ha, hb, hab, hw', rfl⟩ := mem_chk.1 hc
            have : (marks every (chk l l.length) (List.replicate l.length false)).getD a false = true := (marks_new _ _ _ _ ha).2 ⟨_, hc, rfl, by simp⟩
            simp only [moved, Int.toNat_natCast, this, Bool.not_true, Bool.false_and, Bool.false_eq_true, if_false]
          · rw [← hless, chk_pick]
            exact List.length_filterMap_le _ _
      refine Ev.bind (sound_ev l (by omega)) ?_
      by_cases hs : (chk l l.length).length = 0
      · simp only [decide_eq_true hs, if_true]
        refine Ev.bind (sound_ev _ (by omega)) ?_
        have hs2 : (chk (l.take j ++ l.drop (j + 1)) (l.take j ++ l.drop (j + 1)).length).length = 0 := by
          rw [← hless, chk_pick]
          have := List.length_filterMap_le (moved fun i => decide (i ≠ j)) (chk l l.length)
          omega
        simp only [decide_eq_true hs2, Bool.not_true]
        exact key
      · simp only [decide_eq_false hs, Bool.false_eq_true, if_false]
        exact key
end Go.Proofs.Ytlfkdbfbkgcgnaa.Pl
