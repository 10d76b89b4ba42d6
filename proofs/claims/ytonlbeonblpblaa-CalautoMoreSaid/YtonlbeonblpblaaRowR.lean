/-
  Rules in a row of a law's own: read, put in place, swapped. No condition.
-/
import Derived.Test.YtonlbeonblpblaaMono
namespace Go.Proofs.Ytonlbeonblpblaa.All
open Go.RowKit Go.Proofs.YtonlbeonblpblaaW.PrintWords Go.Proofs.YtonlbeonblpblaaW.PrintLast Go.Proofs.YtonlbeonblpblaaW.PrintMore Go.Proofs.Ytonlbeonblpblaa.Wd
set_option linter.unusedVariables false
set_option linter.unusedSimpArgs false
theorem rucs_len : ∀ M : List Ru, (rucs M).length = M.length * 3
  | [] => rfl
  | x :: M => by
    show (ruc x ++ rucs M).length = _
    rw [List.length_append, rucs_len M, List.length_cons, show (ruc x).length = 3 from rfl]
    omega
theorem rucs_app (M L : List Ru) : rucs (M ++ L) = rucs M ++ rucs L := by simp [rucs, List.flatMap_append]
theorem rucs_get : ∀ (M : List Ru) (i j : Nat) (h : i < M.length), j < 3 → (rucs M)[i * 3 + j]? = (ruc M[i])[j]?
  | x :: M, 0, j, _, hj => by
    show (ruc x ++ rucs M)[0 * 3 + j]? = _
    rw [Nat.zero_mul, Nat.zero_add, List.getElem?_append_left (show j < (ruc x).length from hj)]
    rfl
  | x :: M, i + 1, j, h, hj => by
    show (ruc x ++ rucs M)[(i + 1) * 3 + j]? = _
    rw [List.getElem?_append_right (by rw [show (ruc x).length = 3 from rfl]; omega), show (ruc x).length = 3 from rfl, show (i + 1) * 3 + j - 3 = i * 3 + j by omega, rucs_get M i j (by simpa using h) hj]
    rfl
theorem rucs_one (M : List Ru) : ∀ u ∈ rucs M, u.oneCell' = true := by
  intro u hu
  obtain ⟨r, _, h⟩ := List.mem_flatMap.1 hu
  unfold ruc at h
  simp only [List.mem_cons, List.not_mem_nil, or_false] at h
  rcases h with rfl | rfl | rfl <;> rfl
theorem rule_info : (Try.prog.info? 24).map (fun i => (i.zero, i.size, i.bytes)) = some (some (.agg #[.int .i64 0, .int .i64 0, .int .i64 0]), 3, 24) := by kernel_rfl
theorem ru_reads {w : World} {B : Nat} {A : Option Addr} {L : List Ru} (h : RuRow w B A L) : Reads w B 3 A L.length (rucs L) := by
  refine ⟨rucs_len L, fun h0 => ?_⟩
  obtain ⟨ad, e, hb, hc⟩ := h h0
  refine ⟨ad, e, hb, fun j u hu => ?_⟩
  have hj : j < L.length * 3 := by
    have := (List.getElem?_eq_some_iff.1 hu).1
    rwa [rucs_len] at this
  have hi : j / 3 < L.length := by omega
  have hk : j % 3 < 3 := Nat.mod_lt _ (by omega)
  have ej : j = (j / 3) * 3 + j % 3 := by omega
  rw [ej, rucs_get L (j / 3) (j % 3) hi hk] at hu
  have hR := hc (j / 3) hi
  rw [ej]
  generalize j / 3 = i at *
  obtain h | h | h : j % 3 = 0 ∨ j % 3 = 1 ∨ j % 3 = 2 := by omega
  · rw [h] at hu ⊢
    rw [Nat.add_zero, hR.c0]
    exact hu
  · rw [h] at hu ⊢
    rw [add_field ad (i * 3) 1 (by decide)]
    exact hR.c1.trans hu
  · rw [h] at hu ⊢
    rw [add_field ad (i * 3) 2 (by decide)]
    exact hR.c2.trans hu
theorem add0 (q j : Nat) : Addr.add ⟨q, 0, none⟩ j = ⟨q, j, none⟩ := by
  unfold Addr.add
  split
  · rename_i e; rw [e]
  · simp
theorem own_ru {w : World} {base c : Nat} {A : Option Addr} {M : List Ru} (h : w.ownsRow base 24 3 (.slice A M.length c) M.length (rucs M)) : RuRow w w.heap.size A M := fun h0 => by
  obtain ⟨q, cur, rfl, _, hh, _, _, hc⟩ := own_row h h0
  refine ⟨_, rfl, lt_heap hh, fun i hi => ⟨?_, ?_, ?_⟩⟩
  · rw [add0]
    exact hc _ _ ((rucs_get M i 0 hi (by omega)).trans rfl)
  · rw [add0]
    exact hc _ _ ((rucs_get M i 1 hi (by omega)).trans rfl)
  · rw [add0]
    exact hc _ _ ((rucs_get M i 2 hi (by omega)).trans rfl)
theorem rucs_set (M : List Ru) (j : Nat) (hj : j < M.length) (r : Ru) : rucs (M.set j r) = (((rucs M).set (j * 3) (.int .i64 r.k)).set (j * 3 + 1) (.int .i64 r.l)).set (j * 3 + 2) (.int .i64 r.f) := by
  refine List.ext_getElem? fun t => ?_
  by_cases ht : t < M.length * 3
  · have hi : t / 3 < (M.set j r).length := by rw [List.length_set]; omega
    have e1 := rucs_get (M.set j r) (t / 3) (t % 3) hi (Nat.mod_lt _ (by omega))
    have e2 := rucs_get M (t / 3) (t % 3) (by omega) (Nat.mod_lt _ (by omega))
    rw [show (t / 3) * 3 + t % 3 = t by omega] at e1 e2
    have hl := rucs_len M
    rw [e1, List.getElem?_set, List.getElem?_set, List.getElem?_set, List.length_set, List.length_set, hl]
    rw [List.getElem_set]
    by_cases h : j = t / 3
    · rw [if_pos h]
      obtain h3 | h3 | h3 : t % 3 = 0 ∨ t % 3 = 1 ∨ t % 3 = 2 := by omega
      · rw [h3, if_neg (by omega), if_neg (by omega), if_pos (by omega), if_pos (by omega)]; rfl
      · rw [h3, if_neg (by omega), if_pos (by omega), if_pos (by omega)]; rfl
      · rw [h3, if_pos (by omega), if_pos (by omega)]; rfl
    · rw [if_neg h, if_neg (by omega), if_neg (by omega), if_neg (by omega), e2]
  · rw [List.getElem?_eq_none (by rw [rucs_len, List.length_set]; omega), List.getElem?_eq_none (by simp only [List.length_set]; rw [rucs_len]; omega)]
/-- A rule put in its place. -/
theorem own_put3 {w : World} {base c n g : Nat} {M : List Ru} (h : w.ownsRow base 24 3 (.slice (some ⟨g, 0, none⟩) n c) n (rucs M)) (hn : M.length = n) {j : Nat} (hj : j < n) (r : Ru) :
    (((w.setCell { block := g, off := j * 3 } (.int .i64 r.k)).setCell { block := g, off := j * 3 + 1 } (.int .i64 r.l)).setCell { block := g, off := j * 3 + 2 } (.int .i64 r.f)).ownsRow base 24 3 (.slice (some ⟨g, 0, none⟩) n c) n (rucs (M.set j r)) := by
  rcases h.2 with ⟨h0, _⟩ | ⟨g', cap, cur, hv, hb, hh, hc, hm, hs, ht⟩
  · cases h0
  · injection hv with e1 _ e3
    injection e1 with e1
    injection e1 with e1
    subst e1 e3
    refine ⟨by rw [rucs_len, List.length_set, hn], .inr ⟨g, c, ((cur.set! (j * 3) (.int .i64 r.k)).set! (j * 3 + 1) (.int .i64 r.l)).set! (j * 3 + 2) (.int .i64 r.f), rfl, hb, ?_, hc, hm, by simpa using hs, ?_⟩⟩
    · simp [World.setCell, Array.getElem?_modify, hh]
    · rw [rucs_set M j (by omega), ← ht]
      simp [List.take_set]
section
variable {M : List Ru} {x y : Nat}
def swp (M : List Ru) (x y : Nat) : List Ru := (M.set x (M.getD y zr)).set y (M.getD x zr)
theorem swp_len : (swp M x y).length = M.length := by simp [swp]
theorem getD_at (M : List Ru) {k : Nat} (h : k < M.length) : M.getD k zr = M[k] := by rw [List.getD_eq_getElem?_getD, List.getElem?_eq_getElem h]; rfl
theorem swp_get (hx : x < M.length) (hy : y < M.length) (k : Nat) (hk : k < M.length) : (swp M x y)[k]? = some (if y = k then M[x] else if x = k then M[y] else M[k]) := by
  unfold swp
  rw [List.getElem?_set, List.length_set, List.getElem?_set, getD_at M hx, getD_at M hy]
  by_cases h1 : y = k
  · rw [if_pos h1, if_pos (by omega), if_pos h1]
  · rw [if_neg h1, if_neg h1]
    by_cases h2 : x = k
    · rw [if_pos h2, if_pos (by omega), if_pos h2]
    · rw [if_neg h2, if_neg h2, List.getElem?_eq_getElem hk]
theorem swp_mem (hx : x < M.length) (hy : y < M.length) (r : Ru) : r ∈ swp M x y ↔ r ∈ M := by
  constructor
  · intro h
    obtain ⟨k, e⟩ := List.mem_iff_getElem?.1 h
    have hk := (List.getElem?_eq_some_iff.1 e).1
    rw [swp_len] at hk
    rw [swp_get hx hy k hk] at e
    injection e with e
    rw [← e]
    split
    · exact List.getElem_mem _
    · split <;> exact List.getElem_mem _
  · intro h
    obtain ⟨k, hk, rfl⟩ := List.mem_iff_getElem.1 h
    refine List.mem_iff_getElem?.2 ?_
    by_cases h1 : k = x
    · subst h1
      exact ⟨y, by rw [swp_get hx hy y hy, if_pos rfl]⟩
    · by_cases h2 : k = y
      · subst h2
        refine ⟨x, ?_⟩
        rw [swp_get hx hy x hx, if_neg (by omega), if_pos rfl]
      · exact ⟨k, by rw [swp_get hx hy k hk, if_neg (by omega), if_neg (by omega)]⟩
end
end Go.Proofs.Ytonlbeonblpblaa.All
