/-
  The law CalcheckTwice in plain Lean: it tells true of any list of rules and any byte.
-/
import Derived.Test.YtlfkdbfbkgcgnaaMarks
import Derived.Test.YtlfkdbfbkgcgnaaCheckB
import Derived.Test.YtlfkdbfbkgcgnaaAllx19
namespace Go.Proofs.Ytlfkdbfbkgcgnaa.Pl
open Go.RowKit Go.Proofs.Ytlfkdbfbkgcgnaa.All Go.Proofs.YtlfkdbfbkgcgnaaW.PrintWords
set_option linter.unusedVariables false
set_option linter.unusedSimpArgs false

theorem twice_l0 (x0 : List S33) (x1 x6 : Int) (x7 : Bool) (hx : 0 < x0.length) (cs : List S30) (hcs : cs.length ≤ 100000) (hc : cs.any (fun c => c.f0 == (x0.length : Int) && (c.f1 == Int.tmod (wrap64 x1) x0.length && (c.f2 == x6))) = x7) :
    ∀ (d m : Nat) (b : Bool), m + d = cs.length → (b || (cs.drop m).any (fun c => c.f0 == (x0.length : Int) && (c.f1 == Int.tmod (wrap64 x1) x0.length && (c.f2 == x6)))) = x7 →
      Ev (fun k => erewhilelaw35_CalcheckTwice.l0 k x0 x1 x6 x7 b cs cs.length (m : Int)) true
  | 0, m, b, hm, hb => by
    obtain rfl : m = cs.length := by omega
    refine ev_succ ?_
    have h1 : ¬ (cs.length : Int) < (cs.length : Int) := by omega
    simp only [erewhilelaw35_CalcheckTwice.l0, if_neg h1]
    have e : (b == x7) = true := by
      rw [beq_iff_eq]
      simpa using hb
    rw [e]
    exact ev_some
  | d + 1, m, b, hm, hb => by
    refine ev_succ ?_
    have h1 : (m : Int) < (cs.length : Int) := by omega
    have h0 : (0 : Int) ≤ (m : Int) := by omega
    have hz : ¬ (x0.length : Int) = 0 := by omega
    have e : rd_T30 cs m = cs.getD m z30 := rfl
    simp only [erewhilelaw35_CalcheckTwice.l0, if_pos h1, if_pos h0, if_neg hz, wrap_succ m (by omega), e]
    have hd : cs.drop m = cs.getD m z30 :: cs.drop (m + 1) := by
      rw [List.getD_eq_getElem?_getD, List.getElem?_eq_getElem (by omega)]
      exact List.drop_eq_getElem_cons (by omega)
    rw [hd, List.any_cons] at hb
    cases b with
    | true =>
      simp only [if_true]
      refine twice_l0 x0 x1 x6 x7 hx cs hcs hc d (m + 1) true (by omega) ?_
      simpa using hb
    | false =>
      simp only [Bool.false_eq_true, if_false]
      refine twice_l0 x0 x1 x6 x7 hx cs hcs hc d (m + 1) _ (by omega) ?_
      simpa using hb

theorem whyP_self (r : S33) : whyP r r true = if r.f0 = 4 then 2 else if kp r = true then 3 else 0 := by
  unfold whyP
  by_cases h : r.f0 = 4
  · have hk : kp r = false := by simp [kp, h]
    simp [h, hk]
  · simp [h, cov_self]

theorem twice_j2 (x0 : List S33) (hl : 0 < x0.length) (hl2 : x0.length ≤ 20) (x1 : Int) (j : Nat) (hj : j < x0.length) (ht : Int.tmod (wrap64 x1) x0.length = (j : Int)) (x6 : Int) (x7 : Bool)
    (h6 : x6 = if (x0.getD j z33).f0 = 4 then 2 else 3) (h7 : x7 = (kp (x0.getD j z33) || (x0.getD j z33).f0 == 4)) :
    Ev (fun k => erewhilelaw35_CalcheckTwice.j2 k x0 x1 x6 x7 (x0.getD j z33).f0 (x0.getD j z33).f1 (x0.getD j z33).f2) true := by
  refine ev_succ ?_
  have e1 : ([] : List S33).length + x0.length < 5864062014805 := by simp; omega
  have e2 : x0.length + ([(⟨(x0.getD j z33).f0, (x0.getD j z33).f1, (x0.getD j z33).f2⟩ : S33)] : List S33).length < 5864062014805 := by simp; omega
  simp only [erewhilelaw35_CalcheckTwice.j2, Option.bind_some, if_pos e1, List.nil_append, if_pos e2]
  have hlen : (x0 ++ [(x0.getD j z33)]).length = x0.length + 1 := by simp
  refine Ev.bind (check_ev (x0 ++ [(x0.getD j z33)]) (by omega)) ?_
  have hlen2 : (chk (x0 ++ [(x0.getD j z33)]) (x0 ++ [(x0.getD j z33)]).length).length ≤ 100000 := by
    have h2 := chk_len (x0 ++ [(x0.getD j z33)]) (x0 ++ [(x0.getD j z33)]).length
    have h3 : (x0 ++ [(x0.getD j z33)]).length * (x0 ++ [(x0.getD j z33)]).length ≤ 21 * 21 := Nat.mul_le_mul (by omega) (by omega)
    omega
  have hn : (x0 ++ [(x0.getD j z33)]).getD x0.length z33 = x0.getD j z33 := by
    rw [List.getD_eq_getElem?_getD, List.getElem?_append_right (Nat.le_refl _)]
    simp
  have hj' : (x0 ++ [(x0.getD j z33)]).getD j z33 = x0.getD j z33 := by
    rw [List.getD_eq_getElem?_getD, List.getElem?_append_left hj, ← List.getD_eq_getElem?_getD]
  have hc : (chk (x0 ++ [(x0.getD j z33)]) (x0 ++ [(x0.getD j z33)]).length).any (fun c => c.f0 == (x0.length : Int) && (c.f1 == Int.tmod (wrap64 x1) x0.length && (c.f2 == x6))) = x7 := by
    rw [ht, Bool.eq_iff_iff, List.any_eq_true]
    constructor
    · rintro ⟨c, hc, hp⟩
      obtain ⟨a, b, ha, hb, hab, hw, rfl⟩ := mem_chk.1 hc
      simp only [Bool.and_eq_true, beq_iff_eq] at hp
      obtain ⟨p1, p2, p3⟩ := hp
      obtain rfl : a = x0.length := by omega
      obtain rfl : b = j := by omega
      rw [hn, hj', decide_eq_true hj, whyP_self] at hw
      rw [h7]
      by_cases h4 : (x0.getD b z33).f0 = 4
      · simp [-List.getD_eq_getElem?_getD, h4]
      · rw [if_neg h4] at hw
        cases hk : kp (x0.getD b z33) with
        | true => rfl
        | false => rw [hk] at hw; simp at hw
    · intro hx
      rw [h7] at hx
      have hw : whyP (x0.getD j z33) (x0.getD j z33) true = x6 := by
        rw [whyP_self, h6]
        by_cases h4 : (x0.getD j z33).f0 = 4
        · simp [-List.getD_eq_getElem?_getD, h4]
        · have hk : kp (x0.getD j z33) = true := by simpa [-List.getD_eq_getElem?_getD, h4] using hx
          simp [-List.getD_eq_getElem?_getD, h4, hk]
      have hne : x6 ≠ 0 := by
        rw [h6]; split <;> decide
      refine ⟨⟨x0.length, j, x6⟩, mem_chk.2 ⟨x0.length, j, by omega, by omega, by omega, ?_, ?_⟩, by simp⟩
      · rw [hn, hj', decide_eq_true hj, hw]; exact hne
      · rw [hn, hj', decide_eq_true hj, hw]
  exact twice_l0 x0 x1 x6 x7 hl _ hlen2 hc _ 0 false (Nat.zero_add _) (by simpa using hc)

theorem twice_pure (l : List S33) (i : Int) (hi : (Lit.int .u8 i).wf = true) : Ev (fun k => erewhilelaw35_CalcheckTwice.f k l i) true := by
  have hi' : 0 ≤ i ∧ i ≤ 255 := by
    have := hi
    simp [Lit.wf, IntKind.min, IntKind.max, IntKind.signed, IntKind.bits] at this
    omega
  simp only [erewhilelaw35_CalcheckTwice.f]
  refine Ev.bind awake_ev ?_
  simp only [if_true]
  by_cases h : (l.length : Int) = 0
  · simp only [if_pos h]
    refine ev_succ ?_
    simp only [erewhilelaw35_CalcheckTwice.j0, if_true]
    exact ev_some
  · simp only [if_neg h]
    by_cases h2 : (l.length : Int) > 20
    · rw [decide_eq_true h2]
      refine ev_succ ?_
      simp only [erewhilelaw35_CalcheckTwice.j0, if_true]
      exact ev_some
    · rw [decide_eq_false h2]
      refine ev_succ ?_
      have hw : wrap64 i = i := by unfold wrap64; omega
      have hm : Int.tmod i (l.length : Int) = i % (l.length : Int) := Int.tmod_eq_emod_of_nonneg hi'.1
      have hm0 : 0 ≤ i % (l.length : Int) := Int.emod_nonneg _ h
      have hm1 : i % (l.length : Int) < (l.length : Int) := Int.emod_lt_of_pos _ (by omega)
      obtain ⟨j, hj⟩ := Int.eq_ofNat_of_zero_le hm0
      have ht : Int.tmod (wrap64 i) (l.length : Int) = (j : Int) := by rw [hw, hm, hj]
      have hjl : j < l.length := by omega
      have c0 : (0 : Int) ≤ (j : Int) := by omega
      have c1 : (j : Int) < (l.length : Int) := by omega
      have e : rd_T33 l j = l.getD j z33 := rfl
      simp only [erewhilelaw35_CalcheckTwice.j0, Bool.false_eq_true, if_false, if_neg h, ht, if_pos c0, if_pos c1, e]
      have key : ∀ x6, x6 = (if (l.getD j z33).f0 = 4 then (2 : Int) else 3) → Ev (fun k => erewhilelaw35_CalcheckTwice.j1 k l i x6 (l.getD j z33).f0 (l.getD j z33).f1 (l.getD j z33).f2) true := by
        intro x6 h6
        refine ev_succ ?_
        simp only [erewhilelaw35_CalcheckTwice.j1, rkeeps_eq, Option.bind_some]
        cases hk : kp (l.getD j z33) with
        | true =>
          simp only [if_true]
          exact twice_j2 l (by omega) (by omega) i j hjl ht x6 true h6 (by rw [hk]; rfl)
        | false =>
          simp only [Bool.false_eq_true, if_false]
          exact twice_j2 l (by omega) (by omega) i j hjl ht x6 _ h6 (by rw [hk]; rfl)
      by_cases h4 : (l.getD j z33).f0 = 4
      · simp only [if_pos h4]
        exact key 2 (by rw [if_pos h4])
      · simp only [if_neg h4]
        exact key 3 (by rw [if_neg h4])
end Go.Proofs.Ytlfkdbfbkgcgnaa.Pl
