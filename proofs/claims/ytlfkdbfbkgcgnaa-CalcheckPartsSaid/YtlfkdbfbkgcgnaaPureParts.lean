/-
  The law CalcheckParts in plain Lean: it tells true of any list of rules and any bits.
-/
import Derived.Test.YtlfkdbfbkgcgnaaMarks
import Derived.Test.YtlfkdbfbkgcgnaaAllx16
namespace Go.Proofs.Ytlfkdbfbkgcgnaa.Pl
open Go.RowKit Go.Proofs.Ytlfkdbfbkgcgnaa.All Go.Proofs.YtlfkdbfbkgcgnaaW.PrintWords
set_option linter.unusedVariables false
set_option linter.unusedSimpArgs false

def selb (x1 : Int) (i : Nat) : Bool := decide (Go.bits .and .u32 (shr .u32 x1 (IntKind.u64.wrap (i : Int))) 1 = 1)
def atL (sel : Nat → Bool) (n m : Nat) : List Int := (List.range n).map (fun i => if i < m then (if sel i = true then (rank sel i : Int) else -1) else 0)
theorem atL_len (sel : Nat → Bool) (n m : Nat) : (atL sel n m).length = n := by simp [atL]
theorem atL_at (sel : Nat → Bool) (n m i : Nat) (h : i < n) : (atL sel n m)[i]? = some (if i < m then (if sel i = true then (rank sel i : Int) else -1) else 0) := by
  simp [atL, List.getElem?_map, List.getElem?_range h]
theorem atL_zero (sel : Nat → Bool) (n : Nat) : atL sel n 0 = List.replicate n 0 := by
  apply List.ext_getElem?
  intro i
  by_cases h : i < n
  · rw [atL_at _ _ _ _ h]
    simp [List.getElem?_replicate, h]
  · rw [List.getElem?_eq_none (by rw [atL_len]; omega), List.getElem?_eq_none (by simp; omega)]
theorem atL_succ (sel : Nat → Bool) (n m : Nat) (v : Int) (hv : v = if sel m = true then (rank sel m : Int) else -1) : (atL sel n m).set m v = atL sel n (m + 1) := by
  apply List.ext_getElem?
  intro i
  by_cases h : i < n
  · rw [atL_at _ _ _ _ h]
    by_cases hi : m = i
    · subst hi
      rw [List.getElem?_set_self (by rw [atL_len]; exact h), if_pos (by omega), hv]
    · rw [List.getElem?_set_ne hi, atL_at _ _ _ _ h]
      by_cases h2 : i < m
      · rw [if_pos h2, if_pos (show i < m + 1 by omega)]
      · rw [if_neg h2, if_neg (show ¬ i < m + 1 by omega)]
  · rw [List.getElem?_eq_none (by rw [List.length_set, atL_len]; omega), List.getElem?_eq_none (by rw [atL_len]; omega)]

theorem parts_l2 (xs : List S30) (hx : xs.length ≤ 100000) : ∀ d i : Nat, i + d = xs.length → Ev (fun k => erewhilelaw35_CalcheckParts.l2 k xs xs xs.length (i : Int)) true
  | 0, i, hi => by
    obtain rfl : i = xs.length := by omega
    refine ev_succ ?_
    have h1 : ¬ (xs.length : Int) < (xs.length : Int) := by omega
    simp only [erewhilelaw35_CalcheckParts.l2, if_neg h1]
    exact ev_some
  | d + 1, i, hi => by
    have ih := parts_l2 xs hx d (i + 1) (by omega)
    refine ev_succ ?_
    have h1 : (i : Int) < (xs.length : Int) := by omega
    have h0 : (0 : Int) ≤ (i : Int) := by omega
    simp only [erewhilelaw35_CalcheckParts.l2, if_pos h1, if_pos h0, wrap_succ i (by omega), beq_self_eq_true, Bool.not_true, Bool.or_false, Bool.false_eq_true, if_false]
    exact ih

theorem parts_l1 (l : List S33) (hl : l.length ≤ 100) (sel : Nat → Bool) :
    ∀ d m : Nat, m + d = (chk l l.length).length → Ev (fun k => erewhilelaw35_CalcheckParts.l1 k l (pick l sel) (atL sel l.length l.length) (((chk l l.length).take m).filterMap (moved sel)) (chk l l.length) (chk l l.length).length (m : Int)) true
  | 0, m, hm => by
    obtain rfl : m = (chk l l.length).length := by omega
    refine ev_succ ?_
    have h1 : ¬ ((chk l l.length).length : Int) < ((chk l l.length).length : Int) := by omega
    have hsub : (pick l sel).length ≤ l.length := by rw [pick_len]; exact rank_le _ _
    have hlen : (chk l l.length).length ≤ 10000 := by
      have h2 := chk_len l l.length
      have h3 : l.length * l.length ≤ 100 * 100 := Nat.mul_le_mul (by omega) (by omega)
      omega
    simp only [erewhilelaw35_CalcheckParts.l1, if_neg h1, List.take_length]
    refine Ev.bind (check_ev (pick l sel) (by omega)) ?_
    rw [chk_pick]
    simp only [if_true]
    have hle := List.length_filterMap_le (moved sel) (chk l l.length)
    exact parts_l2 _ (by omega) _ 0 (Nat.zero_add _)
  | d + 1, m, hm => by
    have ih := parts_l1 l hl sel d (m + 1) (by omega)
    have hlen : (chk l l.length).length ≤ 10000 := by
      have h2 := chk_len l l.length
      have h3 : l.length * l.length ≤ 100 * 100 := Nat.mul_le_mul (by omega) (by omega)
      omega
    refine ev_succ ?_
    have h1 : (m : Int) < ((chk l l.length).length : Int) := by omega
    have h0' : (0 : Int) ≤ (m : Int) := by omega
    obtain ⟨a, b, ha, hb, hab, hw, hc⟩ := chk_at (l := l) (i := m) (by omega)
    have e : rd_T30 (chk l l.length) m = ⟨a, b, whyP (l.getD a z33) (l.getD b z33) (decide (b < a))⟩ := hc
    have ht : (chk l l.length).take (m + 1) = (chk l l.length).take m ++ [(⟨a, b, whyP (l.getD a z33) (l.getD b z33) (decide (b < a))⟩ : S30)] := by
      rw [← hc, List.take_add_one, List.getElem?_eq_getElem (by omega), List.getD_eq_getElem?_getD, List.getElem?_eq_getElem (by omega)]
      rfl
    rw [ht, List.filterMap_append] at ih
    have a0 : ¬ (a : Int) < 0 := by omega
    have b0 : ¬ (b : Int) < 0 := by omega
    have a1 : ¬ (a : Int) ≥ (l.length : Int) := by omega
    have b1 : ¬ (b : Int) ≥ (l.length : Int) := by omega
    simp only [erewhilelaw35_CalcheckParts.l1, if_pos h1, if_pos h0', e, if_neg a0, if_neg b0, if_neg a1, decide_eq_false b1]
    refine ev_succ ?_
    have a3 : (0 : Int) ≤ (a : Int) := by omega
    have b3 : (0 : Int) ≤ (b : Int) := by omega
    have a4 : (a : Int) < ((atL sel l.length l.length).length : Int) := by rw [atL_len]; omega
    have b4 : (b : Int) < ((atL sel l.length l.length).length : Int) := by rw [atL_len]; omega
    have ra : rd (atL sel l.length l.length) (a : Int) = if sel a = true then (rank sel a : Int) else -1 := by
      show (atL sel l.length l.length).getD a 0 = _
      rw [List.getD_eq_getElem?_getD, atL_at _ _ _ _ ha, if_pos ha]
      rfl
    have rb : rd (atL sel l.length l.length) (b : Int) = if sel b = true then (rank sel b : Int) else -1 := by
      show (atL sel l.length l.length).getD b 0 = _
      rw [List.getD_eq_getElem?_getD, atL_at _ _ _ _ hb, if_pos hb]
      rfl
    have hlt : (((chk l l.length).take m).filterMap (moved sel)).length < 5864062014805 := by
      have := List.length_filterMap_le (moved sel) ((chk l l.length).take m)
      have h9 : ((chk l l.length).take m).length ≤ 10000 := by rw [List.length_take]; omega
      omega
    simp only [erewhilelaw35_CalcheckParts.j2, Bool.false_eq_true, if_false, if_pos a3, if_pos b3, if_pos a4, if_pos b4, ra, rb, wrap_succ m (by omega), if_pos hlt]
    generalize whyP (l.getD a z33) (l.getD b z33) (decide (b < a)) = v at *
    cases sa : sel a with
    | false =>
      have n1 : ¬ (-1 : Int) ≥ 0 := by omega
      simp only [Bool.false_eq_true, if_false, if_neg n1]
      simpa [-List.getD_eq_getElem?_getD, moved, sa] using ih
    | true =>
      have p1 : (rank sel a : Int) ≥ 0 := by omega
      simp only [if_true, if_pos p1]
      cases sb : sel b with
      | false =>
        have n1 : ¬ (-1 : Int) ≥ 0 := by omega
        simp only [Bool.false_eq_true, if_false, if_neg n1]
        simpa [-List.getD_eq_getElem?_getD, moved, sa, sb] using ih
      | true =>
        have p2 : (rank sel b : Int) ≥ 0 := by omega
        simp only [if_true, if_pos p2]
        simpa [-List.getD_eq_getElem?_getD, moved, sa, sb] using ih

theorem parts_l0 (l : List S33) (hl : l.length ≤ 100) (x1 : Int) :
    ∀ d i : Nat, i + d = l.length → Ev (fun k => erewhilelaw35_CalcheckParts.l0 k l x1 ((idx (selb x1) i).map (fun i => l.getD i z33)) (atL (selb x1) l.length i) l l.length (i : Int)) true
  | 0, i, hi => by
    obtain rfl : i = l.length := by omega
    refine ev_succ ?_
    have h1 : ¬ (l.length : Int) < (l.length : Int) := by omega
    simp only [erewhilelaw35_CalcheckParts.l0, if_neg h1]
    refine Ev.bind (check_ev l (by omega)) ?_
    have := parts_l1 l hl (selb x1) _ 0 (Nat.zero_add _)
    simpa [pick] using this
  | d + 1, i, hi => by
    have ih := parts_l0 l hl x1 d (i + 1) (by omega)
    refine ev_succ ?_
    have h1 : (i : Int) < (l.length : Int) := by omega
    have h2 : (i : Int) < ((atL (selb x1) l.length i).length : Int) := by rw [atL_len]; omega
    have h0 : (0 : Int) ≤ (i : Int) := by omega
    have hwr : (0 : Int) ≤ IntKind.u64.wrap (i : Int) := by
      simp [IntKind.wrap, IntKind.bits, IntKind.signed]
      omega
    have e : rd_T33 l i = l.getD i z33 := rfl
    have hlen : ((idx (selb x1) i).map (fun i => l.getD i z33)).length < 5864062014805 := by
      rw [List.length_map]
      have := rank_le (selb x1) i
      unfold rank at this
      omega
    have hrk : (((idx (selb x1) i).map (fun i => l.getD i z33)).length : Int) = (rank (selb x1) i : Int) := by rw [List.length_map]; rfl
    simp only [erewhilelaw35_CalcheckParts.l0, if_pos h1, if_pos h0, if_pos h2, if_pos hwr, e, wrap_succ i (by omega), Option.bind_some, Int.toNat_natCast, if_pos hlen]
    rw [idx_succ] at ih
    by_cases hs : Go.bits .and .u32 (shr .u32 x1 (IntKind.u64.wrap (i : Int))) 1 = 1
    · have hb : selb x1 i = true := by unfold selb; exact decide_eq_true hs
      simp only [if_pos hs, hrk]
      have hset : ((atL (selb x1) l.length i).set i (-1)).set i (rank (selb x1) i : Int) = atL (selb x1) l.length (i + 1) := by
        rw [List.set_set]
        exact atL_succ _ _ _ _ (by rw [if_pos hb])
      rw [hset]
      simpa [-List.getD_eq_getElem?_getD, hb] using ih
    · have hb : selb x1 i = false := by unfold selb; exact decide_eq_false hs
      simp only [if_neg hs]
      rw [atL_succ _ _ _ (-1) (by rw [hb]; rfl)]
      simpa [-List.getD_eq_getElem?_getD, hb] using ih

theorem parts_pure (l : List S33) (x1 : Int) : Ev (fun k => erewhilelaw35_CalcheckParts.f k l x1) true := by
  simp only [erewhilelaw35_CalcheckParts.f]
  refine Ev.bind awake_ev ?_
  simp only [if_true]
  by_cases h : (l.length : Int) > 30
  · simp only [if_pos h]
    exact ev_some
  · have h0 : (0 : Int) ≤ (l.length : Int) := by omega
    have h1 : l.length ≤ 35184372088832 := by omega
    simp only [if_neg h, if_pos h0, Int.toNat_natCast, if_pos h1]
    have := parts_l0 l (by omega) x1 l.length 0 (by omega)
    rw [atL_zero] at this
    simpa [idx] using this
end Go.Proofs.Ytlfkdbfbkgcgnaa.Pl
