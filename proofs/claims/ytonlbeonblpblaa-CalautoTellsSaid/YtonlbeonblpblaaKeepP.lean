/-
  Plain: one rule's minutes; the last one of a window. No condition.
-/
import Derived.Test.YtonlbeonblpblaaNilT
namespace Go.Proofs.Ytonlbeonblpblaa.All
open Go.RowKit Go.Proofs.YtonlbeonblpblaaW.PrintWords Go.Proofs.YtonlbeonblpblaaW.PrintLast Go.Proofs.YtonlbeonblpblaaW.PrintMore Go.Proofs.Ytonlbeonblpblaa.Wd
set_option linter.unusedVariables false
set_option linter.unusedSimpArgs false
theorem one_rt {k l f : Int} (h : rightB ⟨k, l, f⟩ = true) : Rt [⟨k, l, f⟩] := ⟨by simp, fun r hr => by
  obtain rfl : r = ⟨k, l, f⟩ := by simpa using hr
  exact h⟩
theorem one_never {k l f : Int} (h : k ≠ 4) : neverF [⟨k, l, f⟩] = (0, false) := by
  unfold neverF
  simp [neverStep, h]
theorem one_ks {k l f : Int} (h : k ≠ 4) : ksOf [⟨k, l, f⟩] = [⟨k, l, f⟩] := by
  unfold ksOf
  simp [h]
theorem one_till {k l f : Int} (h : k ≠ 4) {M : List It} {num : Int} (hh : hit M num = true) : tl [⟨k, l, f⟩] M num = if keepM M num ⟨k, l, f⟩ = true then minM M num + f else 0 := by
  have hs : spanN (neverF [⟨k, l, f⟩]) ⟨k, l, f⟩ = f := by rw [one_never h]; rfl
  rcases till_cases M num (neverF [⟨k, l, f⟩]) (ksOf [⟨k, l, f⟩]) with ⟨e, hn⟩ | ⟨_, ⟨r, hr, hk, e⟩, _⟩
  · have := hn hh ⟨k, l, f⟩ (by rw [one_ks h]; simp)
    rw [if_neg (by rw [this]; decide)]
    exact e
  · rw [one_ks h] at hr
    obtain rfl : r = ⟨k, l, f⟩ := by simpa using hr
    rw [hs] at e
    rw [if_pos hk]
    exact e.symm
section
variable {M : List It}
theorem next_at (g : Good M) {i : Nat} (hi : i < M.length) : nextI M M[i].n = i + 1 := by unfold nextI; rw [lb_at g.up hi, if_pos (hit_in g.up hi)]
theorem closes_at (g : Good M) {i : Nat} (hi : i < M.length) (n : Int) (hn : 1 ≤ n) : closesM M M[i].n n = (decide (M.length ≤ i + 1) || (match M[i + 1]? with | some x => decide (M[i].m / n ≠ x.m / n) | none => decide (M[i].m / n ≠ 0 / n))) := by
  unfold closesM isLast nextM
  rw [hit_in g.up hi, decide_eq_true hn, min_at g.up hi, next_at g hi]
  cases M[i + 1]? <;> rfl
/-- The last one of a window closes it. -/
theorem closes_last (g : Good M) {i l : Nat} (hi : i < M.length) (hl : l < M.length) (n : Int) (hn : 1 ≤ n) (he : M[l].m / n = M[i].m / n) (hk : ∀ k (h : k < M.length), l < k → M[k].m / n ≠ M[i].m / n) : closesM M M[l].n n = true := by
  rw [closes_at g hl n hn]
  by_cases h : M.length ≤ l + 1
  · rw [decide_eq_true h]; rfl
  · have hlt : l + 1 < M.length := by omega
    rw [List.getElem?_eq_getElem hlt]
    have := hk (l + 1) hlt (by omega)
    simp only
    rw [decide_eq_true (show M[l].m / n ≠ M[l + 1].m / n from fun e => this (e.symm.trans he)), Bool.or_true]
/-- The others don't. -/
theorem closes_not (g : Good M) {i l : Nat} (hm : ∀ a b (ha : a < M.length) (hb : b < M.length), a ≤ b → M[a].m ≤ M[b].m) (hi : i < M.length) (hl : l < M.length) (hil : i < l) (n : Int) (hn : 1 ≤ n) (he : M[l].m / n = M[i].m / n) : closesM M M[i].n n = false := by
  rw [closes_at g hi n hn]
  have hlt : i + 1 < M.length := by omega
  rw [decide_eq_false (by omega), List.getElem?_eq_getElem hlt]
  have h1 := Int.ediv_le_ediv (c := n) (by omega) (hm i (i + 1) hi hlt (by omega))
  have h2 := Int.ediv_le_ediv (c := n) (by omega) (hm (i + 1) l hlt hl (by omega))
  simp only
  rw [decide_eq_false (by omega)]
  rfl
end
theorem mk_up {L : List Int} (hs : Steps L) : ∀ a b (ha : a < (mkM L L.length).length) (hb : b < (mkM L L.length).length), a ≤ b → (mkM L L.length)[a].m ≤ (mkM L L.length)[b].m := by
  intro a b ha hb hab
  have e : ∀ (k : Nat) (hk : k < (mkM L L.length).length), ((mkM L L.length)[k]).m = mkS L (k + 1) := fun k hk => by simp [mkM]
  rw [e a ha, e b hb]
  rw [mkM_length] at ha hb
  exact mkS_mono hs (a + 1) (b + 1) (by omega) (by omega)
theorem keepM_w (M : List It) (num n f : Int) : keepM M num ⟨2, n, f⟩ = closesM M num n := rfl
theorem nil_till (M : List It) (num : Int) : tl [] M num = 0 := by
  rcases till_cases M num (neverF []) (ksOf []) with ⟨e, _⟩ | ⟨_, ⟨r, hr, _⟩, _⟩
  · exact e
  · exact absurd hr (by simp [ksOf])
theorem nil_mins (M : List It) (num : Int) : mn [] M num = [] := by
  refine List.eq_nil_iff_forall_not_mem.2 fun x hx => ?_
  obtain ⟨_, r, hr, _⟩ := (mins_mem M num (neverF []) (ksOf []) x).1 hx
  exact absurd hr (by simp [ksOf])
theorem nil_sy (M : List It) (num : Int) : sy [] M num 0 = false := by
  show (hit M num && decide (0 < tl [] M num)) = false
  rw [nil_till]
  simp
theorem ru_one {W : World} {k l f : Int} : RuRow (W.alloc (.cells #[.int .i64 k, .int .i64 l, .int .i64 f] 24)) (W.alloc (.cells #[.int .i64 k, .int .i64 l, .int .i64 f] 24)).heap.size (some ⟨W.heap.size, 0, none⟩) [⟨k, l, f⟩] := fun _ => by
  have h := heap_alloc_new W (.cells #[.int .i64 k, .int .i64 l, .int .i64 f] 24)
  refine ⟨_, rfl, by simp, fun i hi => ?_⟩
  obtain rfl : i = 0 := by simpa using hi
  have e1 : Addr.add ⟨W.heap.size, 0, none⟩ (0 * 3) = ⟨W.heap.size, 0, none⟩ := by simp [Addr.add]
  exact ⟨by rw [e1]; exact cell_of_row _ _ 0 _ _ (0, 0) h, by rw [e1]; exact cell_of_row _ _ 1 _ _ (0, 0) h, by rw [e1]; exact cell_of_row _ _ 2 _ _ (0, 0) h⟩
end Go.Proofs.Ytonlbeonblpblaa.All
