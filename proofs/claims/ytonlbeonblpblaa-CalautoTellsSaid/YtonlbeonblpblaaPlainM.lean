/-
  Plain: which minutes a calendar's rules give, as a set; till when; what right rules are. No condition.
-/
import Derived.Test.YtonlbeonblpblaaRight16
import Derived.Test.YtonlbeonblpblaaTill
namespace Go.Proofs.Ytonlbeonblpblaa.All
open Go.RowKit Go.Proofs.YtonlbeonblpblaaW.PrintWords Go.Proofs.YtonlbeonblpblaaW.PrintLast Go.Proofs.YtonlbeonblpblaaW.PrintMore Go.Proofs.Ytonlbeonblpblaa.Wd
set_option linter.unusedVariables false
set_option linter.unusedSimpArgs false
theorem up_eq : ∀ (a b : List Int), a.Pairwise (· < ·) → b.Pairwise (· < ·) → (∀ z, z ∈ a ↔ z ∈ b) → a = b
  | [], [], _, _, _ => rfl
  | [], y :: b, _, _, h => by have := (h y).2 (by simp); cases this
  | x :: a, [], _, _, h => by have := (h x).1 (by simp); cases this
  | x :: a, y :: b, ha, hb, h => by
    rw [List.pairwise_cons] at ha hb
    have hx : x = y := by
      rcases List.mem_cons.1 ((h x).1 (by simp)) with e | e
      · exact e
      · rcases List.mem_cons.1 ((h y).2 (by simp)) with e2 | e2
        · exact e2.symm
        · have := hb.1 x e; have := ha.1 y e2; omega
    subst hx
    rw [up_eq a b ha.2 hb.2 fun z => ?_]
    constructor
    · intro hz
      rcases List.mem_cons.1 ((h z).1 (by simp [hz])) with rfl | e
      · have := ha.1 z hz; omega
      · exact e
    · intro hz
      rcases List.mem_cons.1 ((h z).2 (by simp [hz])) with rfl | e
      · have := hb.1 z hz; omega
      · exact e
theorem upTo_mem (d : Array Int) (m : Nat) (z : Int) (h : z ∈ Lib.compactUpTo d m) : ∃ j, j < m ∧ d[j]! = z := by
  unfold Lib.compactUpTo at h
  obtain ⟨j, hj, e⟩ := List.mem_map.1 h
  exact ⟨j, List.mem_range.1 (List.mem_filter.1 hj).1, e⟩
theorem mem_upTo (d : Array Int) : ∀ (m : Nat), m ≤ d.size → ∀ j, j < m → d[j]! ∈ Lib.compactUpTo d m
  | 0, _, j, hj => absurd hj (Nat.not_lt_zero _)
  | m + 1, hm, j, hj => by
    rw [Lib.compactUpTo_succ]
    by_cases e : j = m
    · subst e
      by_cases hk : Lib.keeps d j = true
      · rw [if_pos hk]; simp
      · rw [if_neg hk]
        cases j with
        | zero => exact absurd (by simp [Lib.keeps]) hk
        | succ i =>
          have hk : d[i + 1]! = d[i]! := by
            simp [Lib.keeps] at hk
            exact hk
          rw [hk]
          exact List.mem_append_left _ (mem_upTo d (i + 1) (by omega) i (by omega))
    · exact List.mem_append_left _ (mem_upTo d m (by omega) j (by omega))
theorem comp_mem (zs : List Int) (z : Int) : z ∈ Lib.compact zs ↔ z ∈ zs := by
  constructor
  · intro h
    obtain ⟨j, hj, rfl⟩ := upTo_mem _ _ _ h
    rw [show zs.toArray[j]! = zs[j] by simp [hj]]
    exact List.getElem_mem hj
  · intro h
    obtain ⟨j, hj, rfl⟩ := List.mem_iff_getElem.1 h
    have := mem_upTo zs.toArray zs.length (by simp) j hj
    rw [show zs.toArray[j]! = zs[j] by simp [hj]] at this
    exact this
theorem upTo_up (d : Array Int) : ∀ m, m ≤ d.size → (∀ i j, i ≤ j → j < m → d[i]! ≤ d[j]!) → (Lib.compactUpTo d m).Pairwise (· < ·)
  | 0, _, _ => by simp [Lib.compactUpTo]
  | m + 1, hm, h => by
    rw [Lib.compactUpTo_succ]
    have ih := upTo_up d m (by omega) (fun i j h1 h2 => h i j h1 (by omega))
    split
    · rename_i hk
      rw [List.pairwise_append]
      refine ⟨ih, by simp, fun a ha b hb => ?_⟩
      obtain rfl : b = d[m]! := by simpa using hb
      obtain ⟨j, hj, rfl⟩ := upTo_mem _ _ _ ha
      cases m with
      | zero => omega
      | succ i =>
        have hk : d[i + 1]! ≠ d[i]! := by
          have hk := hk
          simp [Lib.keeps] at hk
          exact hk
        have h1 := h j i (by omega) (by omega)
        have h2 := h i (i + 1) (by omega) (by omega)
        omega
    · simpa using ih
theorem comp_up {zs : List Int} (h : zs.Pairwise (· ≤ ·)) : (Lib.compact zs).Pairwise (· < ·) := by
  refine upTo_up _ _ (by simp) fun i j hij hj => ?_
  rw [show zs.toArray[i]! = zs[i] by simp [show i < zs.length by omega], show zs.toArray[j]! = zs[j] by simp [hj]]
  rcases Nat.lt_or_ge i j with hlt | hge
  · exact List.pairwise_iff_getElem.1 h i j _ _ hlt
  · obtain rfl : i = j := by omega
    exact Int.le_refl _
theorem mins_up (M : List It) (num : Int) (N : Int × Bool) (rs : List Ru) : (minsF M num N rs).Pairwise (· < ·) := by
  unfold minsF
  split
  · refine comp_up ?_
    have := List.pairwise_mergeSort (le := fun x y : Int => decide (x ≤ y)) (fun a b c h1 h2 => by simp at h1 h2 ⊢; omega) (fun a b => by simp; omega) (raw M num N rs)
    exact this.imp (fun h => by simpa using h)
  · simp
theorem mins_mem (M : List It) (num : Int) (N : Int × Bool) (rs : List Ru) (x : Int) : x ∈ minsF M num N rs ↔ hit M num = true ∧ ∃ r ∈ rs, keepM M num r = true ∧ minM M num + spanN N r = x := by
  unfold minsF
  by_cases h : hit M num = true
  · rw [if_pos h, comp_mem, List.mem_mergeSort]
    unfold raw
    simp only [List.mem_map, List.mem_filter, h, true_and]
    constructor
    · rintro ⟨r, ⟨h1, h2⟩, h3⟩; exact ⟨r, h1, h2, h3⟩
    · rintro ⟨r, h1, h2, h3⟩; exact ⟨r, ⟨h1, h2⟩, h3⟩
  · rw [if_neg h]
    simp [h]
theorem mins_no {M : List It} {num : Int} (h : hit M num = false) (N : Int × Bool) (rs : List Ru) : minsF M num N rs = [] := by
  unfold minsF
  rw [if_neg (by rw [h]; decide)]
theorem up_last {xs : List Int} (h : xs.Pairwise (· < ·)) {x : Int} (hx : x ∈ xs) : x ≤ xs.getLastD 0 := by
  obtain ⟨j, hj, rfl⟩ := List.mem_iff_getElem.1 hx
  rw [last_get xs (by omega)]
  rcases Nat.lt_or_ge j (xs.length - 1) with hlt | hge
  · exact Int.le_of_lt (List.pairwise_iff_getElem.1 h j (xs.length - 1) _ _ hlt)
  · have : j = xs.length - 1 := by omega
    subst this
    exact Int.le_refl _
theorem last_in {xs : List Int} (h : 0 < xs.length) : xs.getLastD 0 ∈ xs := by
  rw [last_get xs h]
  exact List.getElem_mem _
theorem till_max {M : List It} {num : Int} {N : Int × Bool} {rs : List Ru} {x : Int} (h : x ∈ minsF M num N rs) : x ≤ tillF M num N rs := up_last (mins_up _ _ _ _) h
theorem till_in {M : List It} {num : Int} {N : Int × Bool} {rs : List Ru} (h : 0 < (minsF M num N rs).length) : tillF M num N rs ∈ minsF M num N rs := last_in h
theorem till_none {M : List It} {num : Int} {N : Int × Bool} {rs : List Ru} (h : ¬ 0 < (minsF M num N rs).length) : tillF M num N rs = 0 := last_none _ h
/-- Till when, as the greatest of its minutes. -/
theorem till_cases (M : List It) (num : Int) (N : Int × Bool) (rs : List Ru) : (tillF M num N rs = 0 ∧ (hit M num = true → ∀ r ∈ rs, keepM M num r = false)) ∨ (hit M num = true ∧ (∃ r ∈ rs, keepM M num r = true ∧ minM M num + spanN N r = tillF M num N rs) ∧ ∀ r ∈ rs, keepM M num r = true → minM M num + spanN N r ≤ tillF M num N rs) := by
  by_cases h : 0 < (minsF M num N rs).length
  · have h1 := till_in h
    obtain ⟨h2, h3⟩ := (mins_mem _ _ _ _ _).1 h1
    exact .inr ⟨h2, h3, fun r hr hk => till_max ((mins_mem _ _ _ _ _).2 ⟨h2, r, hr, hk, rfl⟩)⟩
  · refine .inl ⟨till_none h, fun h2 r hr => ?_⟩
    cases hk : keepM M num r with
    | false => rfl
    | true =>
      have := (mins_mem M num N rs _).2 ⟨h2, r, hr, hk, rfl⟩
      exact absurd (List.length_pos_of_mem this) h
/-- What the least of the Nevers is. -/
def NvS (P : List Ru) (a : Int × Bool) : Prop := (a.2 = false ∧ a.1 = 0 ∧ ∀ r ∈ P, r.k ≠ 4) ∨ (a.2 = true ∧ (∃ r ∈ P, r.k = 4 ∧ r.f = a.1) ∧ ∀ r ∈ P, r.k = 4 → a.1 ≤ r.f)
theorem nv_step {P : List Ru} {a : Int × Bool} (h : NvS P a) (r : Ru) : NvS (P ++ [r]) (neverStep a r) := by
  unfold neverStep
  by_cases hk : r.k = 4
  · rw [if_pos hk]
    rcases h with ⟨h1, h2, h3⟩ | ⟨h1, ⟨q, hq, h2, h3⟩, h4⟩
    · rw [if_pos (.inl h1)]
      refine .inr ⟨rfl, ⟨r, by simp, hk, rfl⟩, fun x hx hxk => ?_⟩
      rcases List.mem_append.1 hx with hx | hx
      · exact absurd hxk (h3 x hx)
      · obtain rfl : x = r := by simpa using hx
        exact Int.le_refl _
    · by_cases hf : r.f < a.1
      · rw [if_pos (.inr hf)]
        refine .inr ⟨rfl, ⟨r, by simp, hk, rfl⟩, fun x hx hxk => ?_⟩
        rcases List.mem_append.1 hx with hx | hx
        · have := h4 x hx hxk
          show r.f ≤ x.f
          omega
        · obtain rfl : x = r := by simpa using hx
          exact Int.le_refl _
      · rw [if_neg (by rintro (h | h); · rw [h1] at h; cases h
                       · exact hf h)]
        refine .inr ⟨h1, ⟨q, List.mem_append_left _ hq, h2, h3⟩, fun x hx hxk => ?_⟩
        rcases List.mem_append.1 hx with hx | hx
        · exact h4 x hx hxk
        · obtain rfl : x = r := by simpa using hx
          omega
  · rw [if_neg hk]
    rcases h with ⟨h1, h2, h3⟩ | ⟨h1, ⟨q, hq, h2, h3⟩, h4⟩
    · refine .inl ⟨h1, h2, fun x hx => ?_⟩
      rcases List.mem_append.1 hx with hx | hx
      · exact h3 x hx
      · obtain rfl : x = r := by simpa using hx
        exact hk
    · refine .inr ⟨h1, ⟨q, List.mem_append_left _ hq, h2, h3⟩, fun x hx hxk => ?_⟩
      rcases List.mem_append.1 hx with hx | hx
      · exact h4 x hx hxk
      · obtain rfl : x = r := by simpa using hx
        exact absurd hxk hk
theorem nv_fold : ∀ (L P : List Ru) (a : Int × Bool), NvS P a → NvS (P ++ L) (L.foldl neverStep a)
  | [], P, a, h => by rw [List.append_nil]; exact h
  | r :: L, P, a, h => by
    rw [List.foldl_cons, show P ++ r :: L = (P ++ [r]) ++ L by simp]
    exact nv_fold L (P ++ [r]) _ (nv_step h r)
theorem never_spec (L : List Ru) : NvS L (neverF L) := by
  have := nv_fold L [] (0, false) (.inl ⟨rfl, rfl, fun r hr => absurd hr (by simp)⟩)
  simpa [neverF] using this
theorem nvs_uniq {P Q : List Ru} {a b : Int × Bool} (h : NvS P a) (h2 : NvS Q b) (hm : ∀ r, r ∈ P ↔ r ∈ Q) : a = b := by
  obtain ⟨a1, a2⟩ := a
  obtain ⟨b1, b2⟩ := b
  rcases h with ⟨e1, e2, e3⟩ | ⟨e1, ⟨q, hq, e2, e3⟩, e4⟩ <;> rcases h2 with ⟨f1, f2, f3⟩ | ⟨f1, ⟨p, hp, f2, f3⟩, f4⟩
  · simp only at e1 e2 f1 f2
    rw [e1, e2, f1, f2]
  · exact absurd f2 (e3 p ((hm p).2 hp))
  · exact absurd e2 (f3 q ((hm q).1 hq))
  · have h5 := e4 p ((hm p).2 hp) f2
    have h6 := f4 q ((hm q).1 hq) e2
    simp only at e1 f1 e3 f3 h5 h6
    rw [e1, f1]
    congr 1
    omega
theorem never_same {L L' : List Ru} (h : ∀ r, r ∈ L ↔ r ∈ L') : neverF L = neverF L' := nvs_uniq (never_spec L) (never_spec L') h
theorem ks_mem (L : List Ru) (r : Ru) : r ∈ ksOf L ↔ r ∈ L ∧ r.k ≠ 4 := by unfold ksOf; rw [List.mem_filter]; simp
theorem mins_same {M : List It} {num : Int} {L L' : List Ru} (h : ∀ r, r ∈ L ↔ r ∈ L') : minsF M num (neverF L) (ksOf L) = minsF M num (neverF L') (ksOf L') := by
  refine up_eq _ _ (mins_up _ _ _ _) (mins_up _ _ _ _) fun z => ?_
  rw [mins_mem, mins_mem, never_same h]
  constructor
  · rintro ⟨h1, r, hr, h2⟩
    exact ⟨h1, r, (ks_mem _ _).2 ⟨(h r).1 ((ks_mem _ _).1 hr).1, ((ks_mem _ _).1 hr).2⟩, h2⟩
  · rintro ⟨h1, r, hr, h2⟩
    exact ⟨h1, r, (ks_mem _ _).2 ⟨(h r).2 ((ks_mem _ _).1 hr).1, ((ks_mem _ _).1 hr).2⟩, h2⟩
theorem rightB_f {r : Ru} (h : rightB r = true) : 1 ≤ r.f ∧ r.f ≤ 1073741824 := by
  have hs : spanB r.f = true := by
    unfold rightB at h
    split at h
    · simp only [Bool.and_eq_true] at h; exact h.2
    · split at h
      · simp only [Bool.and_eq_true] at h; exact h.2
      · cases h
  unfold spanB at hs
  simp only [Bool.and_eq_true, decide_eq_true_eq] at hs
  exact hs
theorem rightB_k {r : Ru} (h : rightB r = true) : r.k = 1 ∨ r.k = 2 ∨ r.k = 3 ∨ r.k = 4 := by
  unfold rightB at h
  split at h
  · rename_i e; rcases e with e | e <;> simp [e]
  · split at h
    · rename_i e; rcases e with e | e <;> simp [e]
    · cases h
theorem rightL_parts {L : List Ru} (h : rightL L = true) : L.length ≤ 16 ∧ ∀ r ∈ L, rightB r = true := by
  unfold rightL at h
  simp only [Bool.and_eq_true, decide_eq_true_eq, List.all_eq_true] at h
  exact h
/-- What a right calendar's compiled rules and least Never are. -/
structure Rt (L : List Ru) : Prop where
  len : L.length ≤ 16
  r : ∀ r ∈ L, rightB r = true
theorem Rt.n {L : List Ru} (h : Rt L) : 0 ≤ (neverF L).1 ∧ (neverF L).1 ≤ 1073741824 := by
  rcases never_spec L with ⟨e1, e2, e3⟩ | ⟨e1, ⟨q, hq, e2, e3⟩, e4⟩
  · rw [e2]; decide
  · have := rightB_f (h.r q hq)
    omega
theorem Rt.span {L : List Ru} (h : Rt L) {r : Ru} (hr : r ∈ ksOf L) : 1 ≤ spanN (neverF L) r ∧ spanN (neverF L) r ≤ 1073741824 := by
  have h1 := rightB_f (h.r r ((ks_mem _ _).1 hr).1)
  unfold spanN
  rcases never_spec L with ⟨e1, e2, e3⟩ | ⟨e1, ⟨q, hq, e2, e3⟩, e4⟩
  · rw [if_neg (by rw [e1]; decide)]; exact h1
  · have := rightB_f (h.r q hq)
    rw [if_pos e1]
    omega
theorem Rt.ks {L : List Ru} (h : Rt L) {ks : List (Ru × Nat)} (hk : ks.map (·.1) = ksOf L) : ks.length ≤ 16 ∧ ∀ p ∈ ks, 0 ≤ p.1.f ∧ p.1.f ≤ 1073741824 := by
  have hl : ks.length = (ksOf L).length := by rw [← hk, List.length_map]
  have hl2 : (ksOf L).length ≤ L.length := List.length_filter_le _ _
  refine ⟨by have := h.len; omega, fun p hp => ?_⟩
  have hm : p.1 ∈ ksOf L := by rw [← hk]; exact List.mem_map_of_mem hp
  have := rightB_f (h.r _ ((ks_mem _ _).1 hm).1)
  omega
end Go.Proofs.Ytonlbeonblpblaa.All
