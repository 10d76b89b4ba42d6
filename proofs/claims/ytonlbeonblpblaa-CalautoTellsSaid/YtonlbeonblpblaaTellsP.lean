/-
  Plain: minutes put in their order, each once; what comes of it is what a calendar's rules give. No condition.
-/
import Derived.Test.YtonlbeonblpblaaDocF
import Derived.Test.YtonlbeonblpblaaRel
namespace Go.Proofs.Ytonlbeonblpblaa.All
open Go.RowKit Go.Proofs.YtonlbeonblpblaaW.PrintWords Go.Proofs.YtonlbeonblpblaaW.PrintLast Go.Proofs.YtonlbeonblpblaaW.PrintMore Go.Proofs.Ytonlbeonblpblaa.Wd
set_option linter.unusedVariables false
set_option linter.unusedSimpArgs false
/-- Where a minute stands, or would stand. -/
def insK (xs : List Int) (m : Int) : Nat := (xs.takeWhile fun x => decide (x < m)).length
def insI (xs : List Int) (m : Int) : List Int := if xs[insK xs m]? = some m then xs else xs.take (insK xs m) ++ [m] ++ xs.drop (insK xs m)
theorem insK_le (xs : List Int) (m : Int) : insK xs m ≤ xs.length := (List.takeWhile_prefix _).length_le
theorem insK_eq {xs : List Int} {m : Int} : ∀ {i : Nat}, i ≤ xs.length → (∀ t (h : t < xs.length), t < i → xs[t] < m) → (∀ h : i < xs.length, ¬ xs[i] < m) → insK xs m = i := by
  induction xs with
  | nil =>
    intro i h _ _
    obtain rfl : i = 0 := by simpa using h
    rfl
  | cons x M ih =>
    intro i h h1 h2
    cases i with
    | zero =>
      have := h2 (by simp)
      unfold insK
      rw [List.takeWhile_cons, if_neg (by simpa using this)]
      rfl
    | succ i =>
      have h0 : x < m := h1 0 (by simp) (by omega)
      have := ih (i := i) (by simpa using h) (fun t h3 h4 => h1 (t + 1) (by simpa using h3) (by omega)) (fun h3 => h2 (by simpa using h3))
      unfold insK at this ⊢
      rw [List.takeWhile_cons, if_pos (by simpa using h0), List.length_cons, this]
theorem insK_lt {m : Int} : ∀ {xs : List Int} {t : Nat} (h : t < xs.length), t < insK xs m → xs[t] < m
  | x :: M, t, h, ht => by
    by_cases hx : x < m
    · have e : insK (x :: M) m = insK M m + 1 := by unfold insK; rw [List.takeWhile_cons, if_pos (by simpa using hx)]; rfl
      cases t with
      | zero => exact hx
      | succ t =>
        rw [e] at ht
        exact insK_lt (xs := M) (by simpa using h) (by omega)
    · have e : insK (x :: M) m = 0 := by unfold insK; rw [List.takeWhile_cons, if_neg (by simpa using hx)]; rfl
      omega
theorem insK_ge {xs : List Int} {m : Int} (h : insK xs m < xs.length) : ¬ xs[insK xs m] < m := by
  induction xs with
  | nil => simp at h
  | cons x M ih =>
    by_cases hx : x < m
    · have e : insK (x :: M) m = insK M m + 1 := by unfold insK; rw [List.takeWhile_cons, if_pos (by simpa using hx)]; rfl
      have h2 : insK M m < M.length := by rw [e] at h; simpa using h
      have := ih h2
      simp only [e, List.getElem_cons_succ]
      exact this
    · have e : insK (x :: M) m = 0 := by unfold insK; rw [List.takeWhile_cons, if_neg (by simpa using hx)]; rfl
      simp only [e, List.getElem_cons_zero]
      exact hx
theorem ins_mem (xs : List Int) (m z : Int) : z ∈ insI xs m ↔ z ∈ xs ∨ z = m := by
  unfold insI
  split
  · rename_i h
    refine ⟨.inl, fun e => ?_⟩
    rcases e with e | rfl
    · exact e
    · exact List.mem_of_getElem? h
  · conv => rhs; rw [← List.take_append_drop (insK xs m) xs]
    simp only [List.mem_append, List.mem_singleton]
    constructor
    · rintro ((h | h) | h)
      · exact .inl (.inl h)
      · exact .inr h
      · exact .inl (.inr h)
    · rintro ((h | h) | h)
      · exact .inl (.inl h)
      · exact .inr h
      · exact .inl (.inr h)
theorem ins_up {xs : List Int} (h : xs.Pairwise (· < ·)) (m : Int) : (insI xs m).Pairwise (· < ·) := by
  unfold insI
  split
  · exact h
  · rename_i hn
    have hlt : ∀ a ∈ xs.take (insK xs m), a < m := fun a ha => by
      obtain ⟨t, ht, rfl⟩ := List.mem_iff_getElem.1 ha
      rw [List.length_take] at ht
      rw [List.getElem_take]
      exact insK_lt (by omega) (by omega)
    have hgt : ∀ a ∈ xs.drop (insK xs m), m < a := fun a ha => by
      obtain ⟨t, ht, rfl⟩ := List.mem_iff_getElem.1 ha
      rw [List.length_drop] at ht
      rw [List.getElem_drop]
      have hk : insK xs m < xs.length := by omega
      have h1 := insK_ge hk
      have h2 : xs[insK xs m] ≠ m := fun e => hn (by rw [List.getElem?_eq_getElem hk, e])
      cases t with
      | zero => simp only [Nat.add_zero]; omega
      | succ t =>
        have := List.pairwise_iff_getElem.1 h (insK xs m) (insK xs m + (t + 1)) hk (by omega) (by omega)
        omega
    have hp : (xs.take (insK xs m) ++ xs.drop (insK xs m)).Pairwise (· < ·) := by rw [List.take_append_drop]; exact h
    rw [List.pairwise_append] at hp
    rw [List.append_assoc, List.pairwise_append]
    refine ⟨hp.1, ?_, fun a ha b hb => ?_⟩
    · rw [List.singleton_append, List.pairwise_cons]
      exact ⟨hgt, hp.2.1⟩
    · rw [List.singleton_append, List.mem_cons] at hb
      rcases hb with rfl | hb
      · exact hlt a ha
      · exact hp.2.2 a ha b hb
theorem ins_len (xs : List Int) (m : Int) : (insI xs m).length ≤ xs.length + 1 := by
  unfold insI
  split
  · omega
  · have := insK_le xs m
    simp only [List.length_append, List.length_take, List.length_drop, List.length_singleton]
    omega
/-- Does the document say that a rule keeps a moment? -/
def keepD (M : List It) (num : Int) (r : Ru) : Bool := if r.k = 4 then false else keepM M num r
def stepD (M : List It) (num : Int) (N : Int × Bool) (xs : List Int) (r : Ru) : List Int := if keepD M num r = true then insI xs (minM M num + spanN N r) else xs
def minsD (M : List It) (num : Int) (N : Int × Bool) (L : List Ru) : List Int := L.foldl (stepD M num N) []
theorem stepD_up {M : List It} {num : Int} {N : Int × Bool} {xs : List Int} (h : xs.Pairwise (· < ·)) (r : Ru) : (stepD M num N xs r).Pairwise (· < ·) := by
  unfold stepD
  split
  · exact ins_up h _
  · exact h
theorem minsD_take (M : List It) (num : Int) (N : Int × Bool) {L : List Ru} {i : Nat} (h : i < L.length) : minsD M num N (L.take (i + 1)) = stepD M num N (minsD M num N (L.take i)) L[i] := by
  unfold minsD
  rw [List.take_succ_eq_append_getElem h, List.foldl_append]
  rfl
theorem minsD_spec (M : List It) (num : Int) (N : Int × Bool) (L : List Ru) : ∀ i, i ≤ L.length → (minsD M num N (L.take i)).Pairwise (· < ·) ∧ (minsD M num N (L.take i)).length ≤ i ∧ ∀ z, z ∈ minsD M num N (L.take i) ↔ ∃ r ∈ L.take i, keepD M num r = true ∧ minM M num + spanN N r = z
  | 0, _ => ⟨by simp [minsD], by simp [minsD], fun z => by simp [minsD]⟩
  | i + 1, h => by
    obtain ⟨h1, h2, h3⟩ := minsD_spec M num N L i (by omega)
    rw [minsD_take M num N (show i < L.length by omega)]
    refine ⟨stepD_up h1 _, ?_, fun z => ?_⟩
    · unfold stepD
      split
      · have := ins_len (minsD M num N (L.take i)) (minM M num + spanN N L[i])
        omega
      · omega
    · rw [List.take_succ_eq_append_getElem (show i < L.length by omega)]
      simp only [List.mem_append, List.mem_singleton]
      unfold stepD
      split
      · rename_i hk
        rw [ins_mem, h3 z]
        constructor
        · rintro (⟨r, hr, h4⟩ | rfl)
          · exact ⟨r, .inl hr, h4⟩
          · exact ⟨_, .inr rfl, hk, rfl⟩
        · rintro ⟨r, hr | rfl, h4, h5⟩
          · exact .inl ⟨r, hr, h4, h5⟩
          · exact .inr h5.symm
      · rename_i hk
        rw [h3 z]
        constructor
        · rintro ⟨r, hr, h4⟩
          exact ⟨r, .inl hr, h4⟩
        · rintro ⟨r, hr | rfl, h4, h5⟩
          · exact ⟨r, hr, h4, h5⟩
          · exact absurd h4 hk
theorem minsD_is {M : List It} {num : Int} (h : hit M num = true) (L : List Ru) : minsD M num (neverF L) L = mn L M num := by
  have h0 := minsD_spec M num (neverF L) L L.length (Nat.le_refl _)
  rw [List.take_length] at h0
  refine up_eq _ _ h0.1 (mins_up _ _ _ _) fun z => ?_
  rw [h0.2.2 z]
  show _ ↔ z ∈ minsF M num (neverF L) (ksOf L)
  rw [mins_mem]
  constructor
  · rintro ⟨r, hr, h1, h2⟩
    unfold keepD at h1
    split at h1
    · cases h1
    · rename_i hk
      exact ⟨h, r, (ks_mem _ _).2 ⟨hr, hk⟩, h1, h2⟩
  · rintro ⟨_, r, hr, h1, h2⟩
    obtain ⟨h3, h4⟩ := (ks_mem _ _).1 hr
    exact ⟨r, h3, by unfold keepD; rw [if_neg h4]; exact h1, h2⟩
/-- Minutes that rise with the numbers. -/
theorem relAt_mu {M : List It} (h : ∀ i j (hi : i < M.length) (hj : j < M.length), i < j → M[i].m ≤ M[j].m) (k : Nat) : ∀ i j (hi : i < (relAt M k).length) (hj : j < (relAt M k).length), i < j → (relAt M k)[i].m ≤ (relAt M k)[j].m := fun i j hi hj hij => by
  have hi2 : i < M.length := by rwa [relAt_len] at hi
  have hj2 : j < M.length := by rwa [relAt_len] at hj
  rw [relAt_get M k hi hi2, relAt_get M k hj hj2]
  exact h i j hi2 hj2 hij
theorem erase_get {α : Type} (M : List α) (k : Nat) {i : Nat} (h : i < (M.eraseIdx k).length) : ∃ (j : Nat) (hj : j < M.length), (M.eraseIdx k)[i] = M[j] ∧ j = if i < k then i else i + 1 := by
  have hl : (M.eraseIdx k).length ≤ M.length := List.length_eraseIdx_le _ _
  by_cases e : i < k
  · exact ⟨i, by omega, by rw [List.getElem_eraseIdx, dif_pos e], by rw [if_pos e]⟩
  · have hj : i + 1 < M.length := by
      rw [List.length_eraseIdx] at h
      split at h <;> omega
    exact ⟨i + 1, hj, by rw [List.getElem_eraseIdx, dif_neg e], by rw [if_neg e]⟩
theorem erase_good {M : List It} (g : Good M) (k : Nat) : Good (M.eraseIdx k) := by
  have hl : (M.eraseIdx k).length ≤ M.length := List.length_eraseIdx_le _ _
  refine ⟨fun i j hi hj h => ?_, fun x hx => g.min x (List.mem_of_mem_eraseIdx hx), by have := g.len; omega⟩
  obtain ⟨i', hi', e1, e2⟩ := erase_get M k hi
  obtain ⟨j', hj', e3, e4⟩ := erase_get M k hj
  rw [e1, e3]
  refine g.up i' j' hi' hj' ?_
  split at e2 <;> split at e4 <;> omega
theorem erase_mu {M : List It} (h : ∀ i j (hi : i < M.length) (hj : j < M.length), i < j → M[i].m ≤ M[j].m) (k : Nat) : ∀ i j (hi : i < (M.eraseIdx k).length) (hj : j < (M.eraseIdx k).length), i < j → (M.eraseIdx k)[i].m ≤ (M.eraseIdx k)[j].m := fun i j hi hj hij => by
  obtain ⟨i', hi', e1, e2⟩ := erase_get M k hi
  obtain ⟨j', hj', e3, e4⟩ := erase_get M k hj
  rw [e1, e3]
  refine h i' j' hi' hj' ?_
  split at e2 <;> split at e4 <;> omega
end Go.Proofs.Ytonlbeonblpblaa.All
