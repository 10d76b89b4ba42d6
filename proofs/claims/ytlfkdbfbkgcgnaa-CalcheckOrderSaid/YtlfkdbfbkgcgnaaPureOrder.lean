/-
  Clashes rise by their places; as many of each kind, however the list is turned: in plain Lean. No condition.
-/
import Derived.Test.YtlfkdbfbkgcgnaaMarks
namespace Go.Proofs.Ytlfkdbfbkgcgnaa.Pl
open Go.RowKit Go.Proofs.Ytlfkdbfbkgcgnaa.All Go.Proofs.YtlfkdbfbkgcgnaaW.PrintWords
set_option linter.unusedVariables false
set_option linter.unusedSimpArgs false

/-! ### they rise -/
def rises (c d : S30) : Prop := c.f0 < d.f0 ∨ (c.f0 = d.f0 ∧ c.f1 < d.f1)
theorem one_places {l : List S33} {i j : Nat} {c : S30} (h : c ∈ one l i j) : c.f0 = (i : Int) ∧ c.f1 = (j : Int) := by
  obtain ⟨_, _, rfl⟩ := mem_one.1 h
  exact ⟨rfl, rfl⟩
theorem row_rises (l : List S33) (i n : Nat) : (row l i n).Pairwise rises := by
  unfold row
  rw [List.pairwise_flatMap]
  refine ⟨fun j _ => ?_, ?_⟩
  · unfold one
    split
    · exact List.Pairwise.nil
    · split
      · exact List.Pairwise.nil
      · exact List.pairwise_singleton _ _
  · refine List.Pairwise.imp ?_ List.pairwise_lt_range
    intro a b hab x hx y hy
    obtain ⟨h1, h2⟩ := one_places hx
    obtain ⟨h3, h4⟩ := one_places hy
    exact Or.inr ⟨by omega, by omega⟩
theorem chk_rises (l : List S33) (m : Nat) : (chk l m).Pairwise rises := by
  unfold chk
  rw [List.pairwise_flatMap]
  refine ⟨fun i _ => row_rises l i _, ?_⟩
  refine List.Pairwise.imp ?_ List.pairwise_lt_range
  intro a b hab x hx y hy
  unfold row at hx hy
  obtain ⟨j, _, hx⟩ := List.mem_flatMap.1 hx
  obtain ⟨j', _, hy⟩ := List.mem_flatMap.1 hy
  have h1 := (one_places hx).1
  have h3 := (one_places hy).1
  exact Or.inl (by omega)
theorem whyP_most (a b : S33) (g : Bool) : 0 ≤ whyP a b g ∧ whyP a b g ≤ 3 := by
  unfold whyP
  split
  · omega
  · split
    · omega
    · split <;> omega

/-! ### as many of each kind -/
def sumN (L : List Nat) (F : Nat → Nat) : Nat := (L.map F).sum
theorem sumN_append (L M : List Nat) (F : Nat → Nat) : sumN (L ++ M) F = sumN L F + sumN M F := by simp [sumN]
theorem sumN_map (L : List Nat) (g F : Nat → Nat) : sumN (L.map g) F = sumN L (fun i => F (g i)) := by
  unfold sumN
  rw [List.map_map]
  rfl
theorem sumN_congr {L : List Nat} {F G : Nat → Nat} (h : ∀ x ∈ L, F x = G x) : sumN L F = sumN L G := by
  unfold sumN
  rw [List.map_congr_left h]
theorem sumN_add (L : List Nat) (F G : Nat → Nat) : sumN L (fun i => F i + G i) = sumN L F + sumN L G := by
  induction L with
  | nil => rfl
  | cons x L ih =>
    simp only [sumN, List.map_cons, List.sum_cons] at ih ⊢
    omega
theorem sumN_zero (L : List Nat) : sumN L (fun _ => 0) = 0 := by
  induction L with
  | nil => rfl
  | cons x L ih =>
    simp only [sumN, List.map_cons, List.sum_cons] at ih ⊢
    omega
theorem sumN_swap (L M : List Nat) (F : Nat → Nat → Nat) : sumN L (fun i => sumN M (fun j => F i j)) = sumN M (fun j => sumN L (fun i => F i j)) := by
  induction L with
  | nil => exact (sumN_zero M).symm
  | cons x L ih =>
    have h1 : ∀ G : Nat → Nat, sumN (x :: L) G = G x + sumN L G := fun G => by simp [sumN]
    rw [h1, ih, ← sumN_add]
    exact sumN_congr (fun j _ => (h1 (fun i => F i j)).symm)
/-- How the list is turned. -/
def turnI (n k i : Nat) : Nat := if i + k < n then i + k else i + k - n
theorem sumN_turn (n k : Nat) (hk : k ≤ n) (F : Nat → Nat) : sumN (List.range n) (fun i => F (turnI n k i)) = sumN (List.range n) F := by
  have e1 : List.range n = List.range (n - k) ++ (List.range k).map (fun j => (n - k) + j) := by
    rw [← List.range_add, Nat.sub_add_cancel hk]
  have e2 : List.range n = List.range k ++ (List.range (n - k)).map (fun j => k + j) := by
    rw [← List.range_add, Nat.add_sub_cancel' hk]
  conv => lhs; rw [e1, sumN_append, sumN_map]
  conv => rhs; rw [e2, sumN_append, sumN_map]
  rw [Nat.add_comm]
  congr 1
  · refine sumN_congr fun j hj => ?_
    have := List.mem_range.1 hj
    unfold turnI
    rw [if_neg (by omega)]
    congr 1
    omega
  · refine sumN_congr fun j hj => ?_
    have := List.mem_range.1 hj
    unfold turnI
    rw [if_pos (by omega), Nat.add_comm]

def bit (b : Bool) : Nat := if b = true then 1 else 0
def tt (w : Int) (l : List S33) (i j : Nat) : Nat := bit (decide (i ≠ j) && (whyP (l.getD i z33) (l.getD j z33) (decide (j < i)) == w))
def cnt (w : Int) (cs : List S30) : Nat := cs.countP (fun c => c.f2 == w)
theorem cnt_flat (w : Int) (L : List Nat) (G : Nat → List S30) : cnt w (L.flatMap G) = sumN L (fun i => cnt w (G i)) := by
  unfold cnt sumN
  rw [List.countP_flatMap]
  rfl
theorem cnt_one (w : Int) (hw : w ≠ 0) (l : List S33) (i j : Nat) : cnt w (one l i j) = tt w l i j := by
  unfold cnt one tt bit
  by_cases h1 : i = j
  · simp [h1]
  · rw [if_neg h1]
    by_cases h2 : whyP (l.getD i z33) (l.getD j z33) (decide (j < i)) = 0
    · rw [if_pos h2, h2]
      simp [h1, Ne.symm hw]
    · rw [if_neg h2]
      simp [h1, -List.getD_eq_getElem?_getD, List.countP_cons]
theorem cnt_chk (w : Int) (hw : w ≠ 0) (l : List S33) : cnt w (chk l l.length) = sumN (List.range l.length) (fun i => sumN (List.range l.length) (fun j => tt w l i j)) := by
  unfold chk
  rw [cnt_flat]
  refine sumN_congr fun i _ => ?_
  unfold row
  rw [cnt_flat]
  exact sumN_congr fun j _ => cnt_one w hw l i j
/-- What two rules give, whichever is ahead. -/
def two (w : Int) (a b : S33) : Nat := bit (whyP a b false == w) + bit (whyP b a true == w)
theorem two_comm (w : Int) (a b : S33) : two w a b = two w b a := by
  have k1 : ∀ x : S33, kp x = true → (x.f0 == 4) = false := fun x h => beq_eq_false_iff_ne.2 (kp_not4 h)
  have c1 : ∀ x y : S33, cov x y = true → kp x = true ∧ kp y = true := fun x y h => ⟨(cov_parts.1 h).1, (cov_parts.1 h).2.1⟩
  unfold two whyP
  generalize hT : decide (b.f2 < a.f2) = T
  generalize hU : decide (a.f2 < b.f2) = U
  have a1 := k1 a
  have b1 := k1 b
  have a2 := c1 a b
  have b2 := c1 b a
  revert a1 b1 a2 b2
  generalize (a.f0 == 4) = x
  generalize (b.f0 == 4) = y
  generalize kp a = p
  generalize kp b = q
  generalize cov a b = u
  generalize cov b a = v
  cases x <;> cases y <;> cases p <;> cases q <;> cases u <;> cases v <;> cases T <;> cases U <;> simp <;> omega
theorem tt_both (w : Int) (l : List S33) (i j : Nat) : tt w l i j + tt w l j i = if i = j then 0 else two w (l.getD i z33) (l.getD j z33) := by
  by_cases h : i = j
  · subst h
    rw [if_pos rfl]
    simp [tt, bit]
  · rw [if_neg h]
    unfold tt
    have h1 : decide (i ≠ j) = true := decide_eq_true h
    have h2 : decide (j ≠ i) = true := decide_eq_true (Ne.symm h)
    rw [h1, h2, Bool.true_and, Bool.true_and]
    by_cases hlt : i < j
    · rw [decide_eq_false (show ¬ j < i by omega), decide_eq_true hlt]
      rfl
    · rw [decide_eq_true (show j < i by omega), decide_eq_false hlt, two_comm]
      unfold two
      omega
theorem cnt_twice (w : Int) (hw : w ≠ 0) (l : List S33) : 2 * cnt w (chk l l.length) = sumN (List.range l.length) (fun i => sumN (List.range l.length) (fun j => if i = j then 0 else two w (l.getD i z33) (l.getD j z33))) := by
  have h1 := cnt_chk w hw l
  have h2 := h1
  rw [sumN_swap] at h2
  have h3 : sumN (List.range l.length) (fun i => sumN (List.range l.length) (fun j => tt w l i j + tt w l j i)) = cnt w (chk l l.length) + cnt w (chk l l.length) := by
    conv => rhs; lhs; rw [h1]
    conv => rhs; rhs; rw [h2]
    rw [← sumN_add]
    exact sumN_congr fun i _ => sumN_add _ _ _
  rw [Nat.two_mul, ← h3]
  exact sumN_congr fun i _ => sumN_congr fun j _ => tt_both w l i j
def turned (l : List S33) (k : Nat) : List S33 := l.drop k ++ l.take k
theorem turned_len (l : List S33) (k : Nat) (hk : k ≤ l.length) : (turned l k).length = l.length := by
  unfold turned
  rw [List.length_append, List.length_drop, List.length_take]
  omega
theorem turned_at (l : List S33) (k : Nat) (hk : k ≤ l.length) (i : Nat) (hi : i < l.length) : (turned l k).getD i z33 = l.getD (turnI l.length k i) z33 := by
  unfold turned turnI
  rw [List.getD_eq_getElem?_getD, List.getD_eq_getElem?_getD]
  by_cases h : i + k < l.length
  · rw [if_pos h, List.getElem?_append_left (by rw [List.length_drop]; omega), List.getElem?_drop, Nat.add_comm]
  · rw [if_neg h, List.getElem?_append_right (by rw [List.length_drop]; omega), List.length_drop, List.getElem?_take, if_pos (by omega)]
    congr 2
    omega
theorem turn_same (n k i j : Nat) (hk : k ≤ n) (hi : i < n) (hj : j < n) : turnI n k i = turnI n k j ↔ i = j := by
  unfold turnI
  split <;> split <;> omega
theorem cnt_turned (w : Int) (hw : w ≠ 0) (l : List S33) (k : Nat) (hk : k ≤ l.length) : cnt w (chk (turned l k) (turned l k).length) = cnt w (chk l l.length) := by
  have h1 := cnt_twice w hw l
  have h2 := cnt_twice w hw (turned l k)
  rw [turned_len l k hk] at h2
  have h3 : sumN (List.range l.length) (fun i => sumN (List.range l.length) (fun j => if i = j then 0 else two w ((turned l k).getD i z33) ((turned l k).getD j z33))) = sumN (List.range l.length) (fun i => sumN (List.range l.length) (fun j => if turnI l.length k i = turnI l.length k j then 0 else two w (l.getD (turnI l.length k i) z33) (l.getD (turnI l.length k j) z33))) := by
    refine sumN_congr fun i hi => sumN_congr fun j hj => ?_
    have hi := List.mem_range.1 hi
    have hj := List.mem_range.1 hj
    rw [turned_at l k hk i hi, turned_at l k hk j hj]
    by_cases e : i = j
    · rw [if_pos e, if_pos ((turn_same _ k i j hk hi hj).2 e)]
    · rw [if_neg e, if_neg (fun q => e ((turn_same _ k i j hk hi hj).1 q))]
  have h4 := sumN_turn l.length k hk (fun a => sumN (List.range l.length) (fun j => if a = turnI l.length k j then 0 else two w (l.getD a z33) (l.getD (turnI l.length k j) z33)))
  have h5 : sumN (List.range l.length) (fun a => sumN (List.range l.length) (fun j => if a = turnI l.length k j then 0 else two w (l.getD a z33) (l.getD (turnI l.length k j) z33))) = sumN (List.range l.length) (fun a => sumN (List.range l.length) (fun b => if a = b then 0 else two w (l.getD a z33) (l.getD b z33))) :=
    sumN_congr fun a _ => sumN_turn l.length k hk (fun b => if a = b then 0 else two w (l.getD a z33) (l.getD b z33))
  rw [turned_len l k hk]
  omega
end Go.Proofs.Ytlfkdbfbkgcgnaa.Pl
