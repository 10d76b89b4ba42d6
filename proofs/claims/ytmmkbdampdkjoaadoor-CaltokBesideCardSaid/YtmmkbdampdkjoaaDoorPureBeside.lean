/-
  The law CaltokBeside in plain Lean: it tells true of any two texts.
-/
import Derived.Test.YtmmkbdampdkjoaaDoorLexI
import Derived.Test.YtmmkbdampdkjoaaDoorLexC
import Derived.Test.YtmmkbdampdkjoaaDoorAllx11
namespace Go.Proofs.YtmmkbdampdkjoaaDoor.Pl
open Go.RowKit Go.Proofs.YtmmkbdampdkjoaaDoor.All Go.Proofs.YtmmkbdampdkjoaaDoorW.PrintWords
set_option linter.unusedVariables false
set_option linter.unusedSimpArgs false

theorem rd_is (l : List S33) (i : Nat) (h : i < l.length) : rd_T33 l (i : Int) = l[i] := by
  show l.getD (i : Int).toNat z33 = l[i]
  rw [Int.toNat_natCast, List.getD_eq_getElem?_getD, List.getElem?_eq_getElem h]
  rfl
theorem wrap_in (a : Int) (h : -1000000000 ≤ a ∧ a ≤ 1000000000) : wrap64 a = a := by
  unfold wrap64
  omega
theorem tok_eq {t u : S33} (h : t = u) : (!(t.f0 == u.f0) || (!(t.f1.toList == u.f1.toList) || (!(t.f2 == u.f2) || !(t.f3 == u.f3)))) = false := by
  subst h
  simp

/-- Tokens of both, and the Line between. -/
def both (L M : List S33) (n : Nat) : List S33 := L.dropLast ++ ⟨3, ofL [], 0, (n : Int)⟩ :: M.map (shiftT (n + 1))
theorem beside_loop (s t : ByteArray) (L M : List S33) (n : Nat) (hs : s.size = n) (hn : n ≤ 1000) (hL : 1 ≤ L.length) (hl : L.length ≤ 1001) (hm : M.length ≤ 1001) (hM : ∀ x ∈ M, 0 ≤ x.f3 ∧ x.f3 ≤ 1000) : ∀ d i : Nat, i + d = L.length + M.length →
    Ev (fun k => erewhilelaw33_CaltokBeside.l0 k s L M (both L M n) (i : Int)) true
  | 0, i, hi => by
    refine ev_succ ?_
    have hlen : (both L M n).length = L.length + M.length := by simp [both]; omega
    have h1 : ¬ (i : Int) < ((both L M n).length : Int) := by rw [hlen]; omega
    simp only [erewhilelaw33_CaltokBeside.l0, if_neg h1]
    exact ev_some
  | d + 1, i, hi => by
    have ih := beside_loop s t L M n hs hn hL hl hm hM d (i + 1) (by omega)
    refine ev_succ ?_
    have hlen : (both L M n).length = L.length + M.length := by simp [both]; omega
    have h1 : (i : Int) < ((both L M n).length : Int) := by rw [hlen]; omega
    have h0 : (0 : Int) ≤ (i : Int) := by omega
    have ew : wrap64 ((L.length : Int) - 1) = (L.length : Int) - 1 := wrap_in _ (by omega)
    have e3 : wrap64 ((i : Int) + 1) = ((i + 1 : Nat) : Int) := wrap_succ i (by omega)
    simp only [erewhilelaw33_CaltokBeside.l0, if_pos h1, ew]
    by_cases h2 : i < L.length - 1
    · have h2' : (i : Int) < (L.length : Int) - 1 := by omega
      have h3 : (i : Int) < (L.length : Int) := by omega
      have h4 : ¬ (i : Int) ≥ (L.length : Int) := by omega
      have e : rd_T33 (both L M n) (i : Int) = rd_T33 L (i : Int) := by
        rw [rd_is _ i (by omega), rd_is _ i (by omega)]
        unfold both
        rw [List.getElem_append_left (by simp; omega), List.getElem_dropLast]
      simp only [if_pos h2', if_pos h0, if_pos h3, tok_eq e]
      refine ev_succ ?_
      simp only [erewhilelaw33_CaltokBeside.j3, Bool.false_eq_true, if_false, if_neg h4, e3]
      exact ih
    · have h2' : ¬ (i : Int) < (L.length : Int) - 1 := by omega
      simp only [if_neg h2']
      refine ev_succ ?_
      simp only [erewhilelaw33_CaltokBeside.j3, Bool.false_eq_true, if_false]
      by_cases h4 : i ≥ L.length
      · have h4' : (i : Int) ≥ (L.length : Int) := by omega
        have e5 : wrap64 ((i : Int) - (L.length : Int)) = ((i - L.length : Nat) : Int) := by
          rw [wrap_in _ (by omega)]
          omega
        have h5 : (0 : Int) ≤ ((i - L.length : Nat) : Int) := by omega
        have h6 : ((i - L.length : Nat) : Int) < (M.length : Int) := by omega
        have hb := hM (M[i - L.length]'(by omega)) (List.getElem_mem _)
        have e6 : rd_T33 (both L M n) (i : Int) = ⟨(rd_T33 M ((i - L.length : Nat) : Int)).f0, (rd_T33 M ((i - L.length : Nat) : Int)).f1, (rd_T33 M ((i - L.length : Nat) : Int)).f2, wrap64 ((rd_T33 M ((i - L.length : Nat) : Int)).f3 + wrap64 ((s.size : Int) + 1))⟩ := by
          rw [rd_is _ i (by omega), rd_is _ (i - L.length) (by omega)]
          unfold both
          rw [List.getElem_append_right (by simp; omega)]
          have hi1 : i - L.dropLast.length = (i - L.length) + 1 := by
            rw [List.length_dropLast]
            omega
          simp only [hi1, List.getElem_cons_succ, List.getElem_map, shiftT]
          rw [wrap_in ((s.size : Int) + 1) (by omega), wrap_in _ (by omega), hs]
          congr 1
        simp only [if_pos h4', e5, if_pos h5, if_pos h6, if_pos h0, if_pos h1]
        have e7 := tok_eq e6
        simp only at e7
        simp only [e7, Bool.false_eq_true, if_false, e3]
        exact ih
      · have h4' : ¬ (i : Int) ≥ (L.length : Int) := by omega
        simp only [if_neg h4', e3]
        exact ih

theorem beside_pure (s t : ByteArray) (_hs : s.size ≤ 140737488351232) (_ht : t.size ≤ 140737488351232) : Ev (fun k => erewhilelaw33_CaltokBeside.f k s t) true := by
  simp only [erewhilelaw33_CaltokBeside.f]
  refine Ev.bind awake_ev ?_
  simp only [if_true]
  have far : Ev (fun k => erewhilelaw33_CaltokBeside.j0 k s t true) true := by
    refine ev_succ ?_
    simp only [erewhilelaw33_CaltokBeside.j0, if_true]
    exact ev_some
  by_cases h : (s.size : Int) > 150
  · simp only [if_pos h]
    exact far
  · by_cases h' : (t.size : Int) > 150
    · simp only [if_neg h, decide_eq_true h']
      exact far
    · simp only [if_neg h, decide_eq_false h']
      refine ev_succ ?_
      simp only [erewhilelaw33_CaltokBeside.j0, Bool.false_eq_true, if_false]
      refine Ev.bind (lex_ev s (by omega)) ?_
      refine Ev.bind (lex_ev t (by omega)) ?_
      have e0 : (⟨#[10]⟩ : ByteArray) = ofL [10] := rfl
      have hsz : (s ++ ofL [10]).size = s.size + 1 := by
        rw [← lst_len, lst_append, lst_ofL, List.length_append, lst_len]
        rfl
      have c1 : s.size + 1 ≤ 9223372036854775807 := by omega
      have c2 : (s ++ ofL [10]).size + t.size ≤ 9223372036854775807 := by omega
      have hsz2 : (s ++ ofL [10] ++ t).size = s.size + 1 + t.size := by
        rw [← lst_len, lst_append, List.length_append, lst_len, lst_len, hsz]
      simp only [if_pos c1, e0, if_pos c2]
      refine Ev.bind (lex_ev (s ++ ofL [10] ++ t) (by omega)) ?_
      have hc : lst (s ++ ofL [10] ++ t) = lst s ++ 10 :: lst t := by
        rw [lst_append, lst_append, lst_ofL]
        simp
      rw [lexS_lst s, lexS_lst t, lexS_lst (s ++ ofL [10] ++ t), hc, lexT_beside, Nat.zero_add, lst_len]
      cases hA : lexT (lst s) 0 with
      | error j =>
        refine ⟨0, fun k _ => ?_⟩
        simp [besideL, outL]
      | ok L =>
        have hsh := lexT_shift (s.size + 1) (lst t) 0
        rw [Nat.zero_add] at hsh
        obtain ⟨b1, b2, b3⟩ := lexT_bounds _ _ _ hA
        rw [lst_len] at b2
        have hL : 1 ≤ L.length := by
          cases L with
          | nil => exact absurd rfl b1
          | cons x r => simp
        cases hB : lexT (lst t) 0 with
        | error j =>
          rw [hB] at hsh
          refine ⟨0, fun k _ => ?_⟩
          have hjb : j ≤ t.size := by
            have := lexS_kind t
            rw [lexS_lst, hB] at this
            rcases this with hk | ⟨j', hj', hk⟩
            · simp [outL] at hk
            · simp [outL] at hk
              omega
          have hw : wrap64 (wrap64 ((s.size : Int) + 1) + (j : Int)) = ((j + (s.size + 1) : Nat) : Int) := by
            rw [wrap_in ((s.size : Int) + 1) (by omega), wrap_in _ (by omega)]
            omega
          simp only [besideL, hsh, outL, shiftL, Except.map, List.nil_append, if_true, hw]
          simp
        | ok M =>
          rw [hB] at hsh
          obtain ⟨m1, m2, m3⟩ := lexT_bounds _ _ _ hB
          rw [lst_len] at m2 m3
          have hM : ∀ x ∈ M, 0 ≤ x.f3 ∧ x.f3 ≤ 1000 := fun x hx => by
            obtain ⟨p, e, h1, h2⟩ := m3 x hx
            omega
          have hbo : L.dropLast ++ ⟨3, ofL [], 0, (s.size : Int)⟩ :: M.map (shiftT (s.size + 1)) = both L M s.size := rfl
          simp only [besideL, hsh, outL, shiftL, Except.map, List.nil_append, if_true, hbo]
          have hlen : (both L M s.size).length = L.length + M.length := by simp [both]; omega
          have e1 : wrap64 ((L.length : Int) + (M.length : Int)) = (L.length : Int) + (M.length : Int) := wrap_in _ (by omega)
          have e2 : wrap64 ((L.length : Int) - 1) = ((L.length - 1 : Nat) : Int) := by
            rw [wrap_in _ (by omega)]
            omega
          have c3 : ((both L M s.size).length : Int) = (L.length : Int) + (M.length : Int) := by omega
          have c4 : ¬ (L.length : Int) < 1 := by omega
          have c5 : (0 : Int) ≤ ((L.length - 1 : Nat) : Int) := by omega
          have c6 : ((L.length - 1 : Nat) : Int) < (L.length : Int) + (M.length : Int) := by omega
          have e3 : rd_T33 (both L M s.size) ((L.length - 1 : Nat) : Int) = ⟨3, ofL [], 0, (s.size : Int)⟩ := by
            rw [rd_is _ _ (by omega)]
            unfold both
            rw [List.getElem_append_right (by simp)]
            simp
          have e4 : (ofL []).toList = [] := by
            rw [ByteArray.toList_eq]
            rfl
          simp only [e1, c3, if_true, if_neg c4, e2, if_pos c5, if_pos c6, e3, e4]
          have e5 : (!((3 : Int) == 3) || (!(([] : List UInt8) == []) || (!((0 : Int) == 0) || !((s.size : Int) == (s.size : Int))))) = false := by simp
          simp only [e5]
          refine ev_succ ?_
          simp only [erewhilelaw33_CaltokBeside.j1, Bool.false_eq_true, if_false]
          exact beside_loop s t L M s.size rfl (by omega) hL (by omega) (by omega) hM (L.length + M.length) 0 (by omega)
end Go.Proofs.YtmmkbdampdkjoaaDoor.Pl
