/-
  Plain: forks that are dropped again, bases, who is alive and who is free; and what the walks keep. No condition.
-/
import Derived.Test.YtaolpniigjmccaaRefP
import Derived.Test.YtaolpniigjmccaaBases
import Derived.Test.YtaolpniigjmccaaIter
import Derived.Test.YtaolpniigjmccaaFreeClone
import Derived.Test.YtaolpniigjmccaaPMid
import Derived.Test.YtaolpniigjmccaaAlike
namespace Go.Proofs.Ytaolpniigjmccaa.Wd
open Go.RowKit Go.Proofs.YtaolpniigjmccaaW.PrintWords
set_option linter.unusedVariables false
theorem forked_set {F : List Tw} {x p b n : Int} (h : Forked F x p b n) : forkF F x p b n = F.set x.toNat ⟨true, p, b, n⟩ := by
  unfold forkF
  rw [if_pos (forkC_yes h)]
theorem set_back {F : List Tw} (ok : Ok F) {x p b n : Int} (h : Forked F x p b n) : (F.set x.toNat ⟨true, p, b, n⟩).set x.toNat tz = F := by
  rw [List.set_set]
  have hl := ok.len
  have hx : x.toNat < F.length := by have := h.lo; have := h.hi; omega
  refine List.ext_getElem (by simp) fun i h1 h2 => ?_
  rw [List.getElem_set]
  split
  · rename_i e
    subst e
    have := ok.idle x h.idle
    unfold tw at this
    rw [List.getD_eq_getElem?_getD, List.getElem?_eq_getElem hx] at this
    exact this.symm
  · rfl
theorem kids_more {F : List Tw} (ok : Ok F) {x p b n : Int} (h : Forked F x p b n) : kidsF (forkF F x p b n) p = kidsF F p + 1 := by
  have hl := ok.len
  have hx : x.toNat < F.length := by have := h.lo; have := h.hi; omega
  have hpx : p ≠ x := by
    rintro rfl
    have := idle_alive h.lo h.hi h.idle
    rw [h.par] at this
    cases this
  rw [forked_set h]
  unfold kidsF
  rw [alive_set ok.len h.lo h.hi, if_neg hpx, if_pos h.par, if_pos h.par, List.countP_set hx]
  have e : (F[x.toNat]).a = false := by
    have := h.idle
    unfold tw at this
    rw [List.getD_eq_getElem?_getD, List.getElem?_eq_getElem hx] at this
    exact this
  simp [e]
theorem par_ne {F : List Tw} {x p b n : Int} (h : Forked F x p b n) : p ≠ x := by
  rintro rfl
  have := idle_alive h.lo h.hi h.idle
  rw [h.par] at this
  cases this
theorem drop_parent {F : List Tw} (ok : Ok F) {x p b n : Int} (h : Forked F x p b n) : dropC (forkF F x p b n) p = if p = 0 then 7 else 12 := by
  have hk := kids_more ok h
  unfold dropC
  by_cases hz : p = 0
  · rw [if_pos hz, if_pos hz]
  · have ha : aliveF (forkF F x p b n) p = true := by rw [forked_set h, alive_set ok.len h.lo h.hi, if_neg (par_ne h)]; exact h.par
    rw [if_neg hz, if_neg hz, if_neg (by rw [ha]; decide), if_pos (by rw [hk]; omega)]
theorem drop_own {F : List Tw} (ok : Ok F) {x p b n : Int} (h : Forked F x p b n) : dropC (forkF F x p b n) x = 0 := by
  have hl := ok.len
  have hx : x.toNat < F.length := by have := h.lo; have := h.hi; omega
  have ha : aliveF (F.set x.toNat ⟨true, p, b, n⟩) x = true := by rw [alive_set ok.len h.lo h.hi, if_pos rfl]
  have hc := childless_idle ok (idle_alive h.lo h.hi h.idle)
  have hk : kidsF (F.set x.toNat ⟨true, p, b, n⟩) x = 0 := by
    unfold kidsF
    rw [if_pos ha, List.countP_set hx]
    have h0 : F.countP (fun t => t.a && t.p == x) = 0 := by
      rw [List.countP_eq_zero]
      intro t ht hp
      obtain ⟨i, hi, rfl⟩ := List.mem_iff_getElem.1 ht
      simp only [Bool.and_eq_true, beq_iff_eq] at hp
      have e : tw F (i : Int) = F[i] := by unfold tw; rw [Int.toNat_natCast, List.getD_eq_getElem?_getD, List.getElem?_eq_getElem hi]; rfl
      rw [← e] at hp
      have hi0 : (i : Int) ≠ 0 := by
        intro hz
        rw [hz, ok.zero] at hp
        exact absurd hp.1 (by decide)
      exact hc (i : Int) (isSon_of (by rw [alive_in (by omega) (by omega) hi0]; exact hp.1) hi0) hp.2
    have hpx : (p == x) = false := by simpa using par_ne h
    rw [h0]
    simp [hpx]
  rw [forked_set h]
  unfold dropC
  rw [if_neg (by have := h.lo; omega), if_neg (by rw [ha]; decide), if_neg (by rw [hk]; omega)]
theorem drop_back {F : List Tw} (ok : Ok F) {x p b n : Int} (h : Forked F x p b n) : dropF (forkF F x p b n) x = F := by
  unfold dropF
  rw [if_pos (drop_own ok h), forked_set h, set_back ok h]
end Go.Proofs.Ytaolpniigjmccaa.Wd
namespace Go.Proofs.Ytaolpniigjmccaa.All
open Go.RowKit Go.Proofs.YtaolpniigjmccaaW.PrintWords Go.Proofs.Ytaolpniigjmccaa.Wd
set_option linter.unusedVariables false
theorem mem_upTo (d : Array Int) : ∀ m j, j < m → d[j]! ∈ Lib.compactUpTo d m
  | 0, j, h => absurd h (Nat.not_lt_zero _)
  | m + 1, j, h => by
    rw [Lib.compactUpTo_succ]
    by_cases hj : j < m
    · exact List.mem_append_left _ (mem_upTo d m j hj)
    · obtain rfl : j = m := by omega
      by_cases hk : Lib.keeps d j = true
      · rw [if_pos hk]
        exact List.mem_append_right _ (by simp)
      · have hk : Lib.keeps d j = false := by simpa using hk
        cases j with
        | zero => simp [Lib.keeps] at hk
        | succ i =>
          have e : d[i + 1]! = d[i]! := by
            have hk := hk
            simp [Lib.keeps] at hk
            first | exact hk | exact hk.symm
          rw [e]
          exact List.mem_append_left _ (mem_upTo d (i + 1) i (by omega))
theorem mem_comp {zs : List Int} {x : Int} (h : x ∈ zs) : x ∈ Lib.compact zs := by
  obtain ⟨j, hj, rfl⟩ := List.mem_iff_getElem.1 h
  have := mem_upTo zs.toArray zs.length j hj
  rwa [show zs.toArray[j]! = zs[j] by simp [hj]] at this
theorem forked_base {F : List Tw} (ok : Ok F) {x p b n : Int} (h : Forked F x p b n) : b ∈ basesF (forkF F x p b n) := by
  have hl := ok.len
  have h0 := h.lo
  have h1 := h.hi
  obtain ⟨k, rfl⟩ : ∃ k : Nat, x = (k : Int) := ⟨x.toNat, by omega⟩
  have ha : aliveF (F.set (k : Int).toNat ⟨true, p, b, n⟩) (k : Int) = true := by rw [alive_set ok.len h.lo h.hi, if_pos rfl]
  have hs : isSon (F.set (k : Int).toNat ⟨true, p, b, n⟩) (k : Int) = true := isSon_of ha (by omega)
  have hp : parB (F.set (k : Int).toNat ⟨true, p, b, n⟩) (k : Int) = b := by
    unfold parB
    rw [if_pos hs, tw_set (by rw [Int.toNat_natCast]; omega), if_pos rfl]
  rw [forked_set h]
  unfold basesF
  refine mem_comp (List.mem_mergeSort.2 ?_)
  unfold baseL
  refine List.mem_map.2 ⟨(k : Int), List.mem_filter.2 ⟨?_, hs⟩, hp⟩
  unfold aliveL
  exact List.mem_map.2 ⟨k, List.mem_filter.2 ⟨List.mem_range.2 (by omega), ha⟩, rfl⟩
end Go.Proofs.Ytaolpniigjmccaa.All
namespace Go.Proofs.Ytaolpniigjmccaa.All
open Go.RowKit Go.Proofs.YtaolpniigjmccaaW.PrintWords Go.Proofs.Ytaolpniigjmccaa.Wd
set_option linter.unusedVariables false
def insU : List Int → Int → List Int
  | [], x => [x]
  | y :: l, x => if y < x then y :: insU l x else if y = x then y :: l else x :: y :: l
def insL (X : List Br) : List Int := X.foldl (fun o y => insU o y.b) []
theorem insU_put : ∀ (l : List Int) (k : Nat) (x : Int), k ≤ l.length → (∀ j (h : j < l.length), j < k → l[j] < x) → (∀ h : k < l.length, x < l[k]) → insU l x = l.take k ++ [x] ++ l.drop k
  | [], k, x, hk, _, _ => by obtain rfl : k = 0 := by simpa using hk
                             rfl
  | y :: l, 0, x, _, _, h => by
    have : x < y := h (by simp)
    unfold insU
    rw [if_neg (by omega), if_neg (by omega)]
    rfl
  | y :: l, k + 1, x, hk, hl, h => by
    have h0 : y < x := hl 0 (by simp) (by omega)
    unfold insU
    rw [if_pos h0, insU_put l k x (by simpa using hk) (fun j h1 h2 => hl (j + 1) (by simpa using h1) (by omega)) (fun h1 => h (by simpa using h1))]
    rfl
theorem insU_same : ∀ (l : List Int) (k : Nat) (x : Int) (hk : k < l.length), (∀ j (h : j < l.length), j < k → l[j] < x) → l[k] = x → insU l x = l
  | [], k, x, hk, _, _ => absurd hk (Nat.not_lt_zero _)
  | y :: l, 0, x, _, _, h => by
    have h : y = x := h
    unfold insU
    rw [if_neg (by omega), if_pos h]
  | y :: l, k + 1, x, hk, hl, h => by
    have h0 : y < x := hl 0 (by simp) (by omega)
    unfold insU
    rw [if_pos h0, insU_same l k x (by simpa using hk) (fun j h1 h2 => hl (j + 1) (by simpa using h1) (by omega)) (by simpa using h)]
theorem insU_mem : ∀ (l : List Int) (x z : Int), z ∈ insU l x ↔ z = x ∨ z ∈ l
  | [], x, z => by simp [insU]
  | y :: l, x, z => by
    unfold insU
    split
    · rw [List.mem_cons, insU_mem l x z, List.mem_cons]
      constructor
      · rintro (h | h | h) <;> simp [h]
      · rintro (h | h | h) <;> simp [h]
    · split
      · rename_i h; subst h; simp
      · simp
theorem insU_up : ∀ (l : List Int) (x : Int), l.Pairwise (· < ·) → (insU l x).Pairwise (· < ·)
  | [], x, _ => by simp [insU]
  | y :: l, x, h => by
    rw [List.pairwise_cons] at h
    unfold insU
    split
    · rename_i hy
      rw [List.pairwise_cons]
      refine ⟨fun z hz => ?_, insU_up l x h.2⟩
      rcases (insU_mem l x z).1 hz with rfl | hz
      · exact hy
      · exact h.1 z hz
    · split
      · rw [List.pairwise_cons]; exact h
      · rename_i h1 h2
        rw [List.pairwise_cons, List.pairwise_cons]
        refine ⟨fun z hz => ?_, h⟩
        rcases List.mem_cons.1 hz with rfl | hz
        · omega
        · have := h.1 z hz; omega
theorem insU_len (l : List Int) (x : Int) : (insU l x).length ≤ l.length + 1 := by
  induction l with
  | nil => simp [insU]
  | cons y l ih =>
    unfold insU
    split
    · simpa using ih
    · split <;> simp
theorem fold_len : ∀ (X : List Br) (o : List Int), (X.foldl (fun o y => insU o y.b) o).length ≤ o.length + X.length
  | [], o => by simp
  | y :: X, o => by
    rw [List.foldl_cons]
    have h1 := fold_len X (insU o y.b)
    have h2 := insU_len o y.b
    rw [List.length_cons]
    omega
theorem insL_len (X : List Br) : (insL X).length ≤ X.length := by simpa [insL] using fold_len X []
theorem insL_take {X : List Br} {k : Nat} (h : k < X.length) : insL (X.take (k + 1)) = insU (insL (X.take k)) X[k].b := by
  unfold insL
  rw [List.take_succ_eq_append_getElem h, List.foldl_append]
  rfl
theorem fold_up : ∀ (X : List Br) (o : List Int), o.Pairwise (· < ·) → (X.foldl (fun o y => insU o y.b) o).Pairwise (· < ·)
  | [], _, h => h
  | y :: X, o, h => fold_up X _ (insU_up o y.b h)
theorem insL_up (X : List Br) : (insL X).Pairwise (· < ·) := fold_up X [] (by simp)
theorem fold_mem : ∀ (X : List Br) (o : List Int) (z : Int), z ∈ X.foldl (fun o y => insU o y.b) o ↔ z ∈ o ∨ ∃ y ∈ X, y.b = z
  | [], o, z => by simp
  | y :: X, o, z => by
    rw [List.foldl_cons, fold_mem X (insU o y.b) z, insU_mem]
    constructor
    · rintro ((rfl | h) | ⟨u, h1, h2⟩)
      · exact .inr ⟨y, by simp, rfl⟩
      · exact .inl h
      · exact .inr ⟨u, by simp [h1], h2⟩
    · rintro (h | ⟨u, h1, h2⟩)
      · exact .inl (.inr h)
      · rcases List.mem_cons.1 h1 with rfl | h1
        · exact .inl (.inl h2.symm)
        · exact .inr ⟨u, h1, h2⟩
theorem insL_mem (X : List Br) (z : Int) : z ∈ insL X ↔ ∃ y ∈ X, y.b = z := by
  unfold insL
  rw [fold_mem]
  simp
theorem up_eq : ∀ (a b : List Int), a.Pairwise (· < ·) → b.Pairwise (· < ·) → (∀ z, z ∈ a ↔ z ∈ b) → a = b
  | [], [], _, _, _ => rfl
  | [], y :: b, _, _, h => by have := (h y).2 (by simp); cases this
  | x :: a, [], _, _, h => by have := (h x).1 (by simp); cases this
  | x :: a, y :: b, ha, hb, h => by
    rw [List.pairwise_cons] at ha hb
    have hx : x = y := by
      rcases List.mem_cons.1 ((h x).1 (by simp)) with e | e
      · exact e
      · rcases List.mem_cons.1 ((h y).2 (by simp)) with e2 | e2
        · exact e2.symm
        · have := hb.1 x e; have := ha.1 y e2; omega
    subst hx
    rw [up_eq a b ha.2 hb.2 fun z => ?_]
    constructor
    · intro hz
      rcases List.mem_cons.1 ((h z).1 (by simp [hz])) with rfl | e
      · have := ha.1 z hz; omega
      · exact e
    · intro hz
      rcases List.mem_cons.1 ((h z).2 (by simp [hz])) with rfl | e
      · have := hb.1 z hz; omega
      · exact e
theorem upTo_mem (d : Array Int) (m : Nat) (z : Int) (h : z ∈ Lib.compactUpTo d m) : ∃ j, j < m ∧ d[j]! = z := by
  unfold Lib.compactUpTo at h
  obtain ⟨j, hj, e⟩ := List.mem_map.1 h
  exact ⟨j, List.mem_range.1 (List.mem_filter.1 hj).1, e⟩
theorem comp_mem (zs : List Int) (z : Int) : z ∈ Lib.compact zs ↔ z ∈ zs := by
  constructor
  · intro h
    obtain ⟨j, hj, rfl⟩ := upTo_mem _ _ _ h
    rw [show zs.toArray[j]! = zs[j] by simp [hj]]
    exact List.getElem_mem hj
  · exact mem_comp
theorem upTo_up (d : Array Int) : ∀ m, m ≤ d.size → (∀ i j, i ≤ j → j < m → d[i]! ≤ d[j]!) → (Lib.compactUpTo d m).Pairwise (· < ·)
  | 0, _, _ => by simp [Lib.compactUpTo]
  | m + 1, hm, h => by
    rw [Lib.compactUpTo_succ]
    have ih := upTo_up d m (by omega) (fun i j h1 h2 => h i j h1 (by omega))
    split
    · rename_i hk
      rw [List.pairwise_append]
      refine ⟨ih, by simp, fun a ha b hb => ?_⟩
      obtain rfl : b = d[m]! := by simpa using hb
      obtain ⟨j, hj, rfl⟩ := upTo_mem _ _ _ ha
      cases m with
      | zero => omega
      | succ i =>
        have hk : d[i + 1]! ≠ d[i]! := by
          have hk := hk
          simp [Lib.keeps] at hk
          exact hk
        have h1 := h j i (by omega) (by omega)
        have h2 := h i (i + 1) (by omega) (by omega)
        omega
    · simpa using ih
theorem comp_up {zs : List Int} (h : zs.Pairwise (· ≤ ·)) : (Lib.compact zs).Pairwise (· < ·) := by
  refine upTo_up _ _ (by simp) fun i j hij hj => ?_
  rw [show zs.toArray[i]! = zs[i] by simp [show i < zs.length by omega], show zs.toArray[j]! = zs[j] by simp [hj]]
  rcases Nat.lt_or_ge i j with hlt | hge
  · exact List.pairwise_iff_getElem.1 h i j _ _ hlt
  · obtain rfl : i = j := by omega
    exact Int.le_refl _
theorem bases_up (F : List Tw) : (basesF F).Pairwise (· < ·) := by
  refine comp_up ?_
  have := List.pairwise_mergeSort (le := fun x y : Int => decide (x ≤ y)) (fun a b c h1 h2 => by simp at h1 h2 ⊢; omega) (fun a b => by simp; omega) (baseL F (aliveL F 16))
  exact this.imp (fun h => by simpa using h)
theorem bases_ref {F : List Tw} (ok : Ok F) : insL (refL F) = basesF F := by
  refine up_eq _ _ (insL_up _) (bases_up F) fun z => ?_
  rw [insL_mem]
  unfold basesF
  rw [comp_mem, List.mem_mergeSort]
  unfold baseL aliveL refL ref
  simp only [List.mem_map, List.mem_filter, List.mem_range]
  constructor
  · rintro ⟨y, ⟨k, ⟨h1, h2⟩, rfl⟩, rfl⟩
    have hk0 : (k : Int) ≠ 0 := by
      intro e
      rw [e, ok.zero] at h2
      exact absurd h2 (by decide)
    have ha : aliveF F (k : Int) = true := by rw [alive_in (by omega) (by omega) hk0]; exact h2
    have hs := isSon_of ha hk0
    exact ⟨(k : Int), ⟨⟨k, ⟨h1, ha⟩, rfl⟩, hs⟩, by unfold parB; rw [if_pos hs]⟩
  · rintro ⟨i, ⟨⟨k, ⟨h1, ha⟩, rfl⟩, hs⟩, rfl⟩
    exact ⟨_, ⟨k, ⟨h1, (son_parts hs).2.2.2.2⟩, rfl⟩, by unfold parB; rw [if_pos hs]⟩
end Go.Proofs.Ytaolpniigjmccaa.All
namespace Go.Proofs.Ytaolpniigjmccaa.All
open Go.RowKit Go.Proofs.YtaolpniigjmccaaW.PrintWords Go.Proofs.Ytaolpniigjmccaa.Wd
set_option linter.unusedVariables false
/-- Behind the last one. -/
def atOf (pre : List Int) : Int := match pre.getLast? with | none => 0 | some x => x + 1
theorem atOf_snoc (l : List Int) (x : Int) : atOf (l ++ [x]) = x + 1 := by unfold atOf; rw [List.getLast?_append]; rfl
theorem atOf_alive (G : List Tw) : ∀ n : Nat, ∃ a : Nat, atOf (aliveL G n) = a ∧ a ≤ n ∧ ∀ j : Nat, a ≤ j → j < n → aliveF G (j : Int) = false
  | 0 => ⟨0, rfl, Nat.le_refl _, fun j _ h => absurd h (Nat.not_lt_zero _)⟩
  | n + 1 => by
    cases ha : aliveF G (n : Int) with
    | true =>
      rw [aliveL_yes ha, atOf_snoc]
      exact ⟨n + 1, by omega, Nat.le_refl _, fun j h1 h2 => by omega⟩
    | false =>
      rw [aliveL_no ha]
      obtain ⟨a, h1, h2, h3⟩ := atOf_alive G n
      refine ⟨a, h1, by omega, fun j h4 h5 => ?_⟩
      by_cases hj : j = n
      · subst hj; exact ha
      · exact h3 j h4 (by omega)
theorem next_alive (G : List Tw) {pre : List Int} {x : Int} : ∀ n : Nat, (pre ++ [x]) <+: aliveL G n → ∃ k : Nat, k < n ∧ x = k ∧ aliveF G (k : Int) = true ∧ ∃ a : Nat, atOf pre = a ∧ a ≤ k ∧ ∀ j : Nat, a ≤ j → j < k → aliveF G (j : Int) = false
  | 0, h => by
    have := h.length_le
    simp [aliveL] at this
  | n + 1, h => by
    cases ha : aliveF G (n : Int) with
    | true =>
      rw [aliveL_yes ha] at h
      rcases List.prefix_concat_iff.1 h with e | h
      · obtain ⟨e1, e2⟩ := List.append_inj' e rfl
        have e2 : x = (n : Int) := by simpa using e2
        subst e1
        obtain ⟨a, h1, h2, h3⟩ := atOf_alive G n
        exact ⟨n, by omega, e2, ha, a, h1, h2, h3⟩
      · obtain ⟨k, h1, h2⟩ := next_alive G n h
        exact ⟨k, by omega, h2⟩
    | false =>
      rw [aliveL_no ha] at h
      obtain ⟨k, h1, h2⟩ := next_alive G n h
      exact ⟨k, by omega, h2⟩
theorem least_free (F : List Tw) : ∀ n : Nat, (∃ r : Nat, r < n ∧ (∀ j : Nat, j < r → aliveF F (j : Int) = true) ∧ aliveF F (r : Int) = false) ∨ ∀ j : Nat, j < n → aliveF F (j : Int) = true
  | 0 => .inr fun j h => absurd h (Nat.not_lt_zero _)
  | n + 1 => by
    rcases least_free F n with ⟨r, h1, h2⟩ | h
    · exact .inl ⟨r, by omega, h2⟩
    · cases ha : aliveF F (n : Int) with
      | true =>
        refine .inr fun j hj => ?_
        by_cases e : j = n
        · subst e; exact ha
        · exact h j (by omega)
      | false => exact .inl ⟨n, by omega, h, ha⟩
end Go.Proofs.Ytaolpniigjmccaa.All
namespace Go.Proofs.Ytaolpniigjmccaa.All
open Go.RowKit Go.Proofs.YtaolpniigjmccaaW.PrintWords Go.Proofs.YtaolpniigjmccaaW.PrintLast Go.Proofs.YtaolpniigjmccaaW.PrintMore Go.Proofs.Ytaolpniigjmccaa.Wd
set_option linter.unusedVariables false
set_option linter.unusedSimpArgs false
private theorem ym4 (motive : Option Value → Sort _) (h1 : (b : Bool) → motive (some (.bool b))) (h2 : (x : Option Value) → motive x) : Go.yielded.match_1 motive (some undef) h1 h2 = h2 (some undef) := rfl
attribute [local go_sem, local simp] ym4
/-- Numbers in a row made after block b, for good. -/
def RdU (b : Nat) (w : World) (A : Option Addr) (xs : List Int) : Prop := xs ≠ [] → ∃ blk cs, A = some ⟨blk, 0, none⟩ ∧ b < blk ∧ w.heap[blk]? = some (.cells cs 23) ∧ ∀ (j : Nat) (u : Value), (xs.map (Value.int .u64))[j]? = some u → cs[j]? = some u
theorem RdU.below {b : Nat} {w w2 : World} {A : Option Addr} {xs : List Int} (h : RdU b w A xs) (hb : Below w.heap.size w w2) : RdU b w2 A xs := fun hn => by
  obtain ⟨blk, cs, h1, h2, h3, h4⟩ := h hn
  exact ⟨blk, cs, h1, h2, (hb.block blk (Array.getElem?_eq_some_iff.1 h3).1).trans h3, h4⟩
theorem RdU.chg {b : Nat} {w w2 : World} {A : Option Addr} {xs : List Int} (h : RdU b w A xs) (hb : Chg (· = b) w w2) : RdU b w2 A xs := fun hn => by
  obtain ⟨blk, cs, h1, h2, h3, h4⟩ := h hn
  exact ⟨blk, cs, h1, h2, hb.old h3 (by show blk ≠ b; omega), h4⟩
theorem RdU.reads {b : Nat} {w : World} {A : Option Addr} {xs : List Int} (h : RdU b w A xs) : Reads w w.heap.size 1 A xs.length (xs.map (Value.int .u64)) := by
  refine ⟨by simp, fun h0 => ?_⟩
  obtain ⟨blk, cs, h1, h2, h3, h4⟩ := h (fun e => by rw [e] at h0; exact absurd h0 (Nat.lt_irrefl _))
  refine ⟨_, h1, (Array.getElem?_eq_some_iff.1 h3).1, fun j u hu => ?_⟩
  have e : Addr.add ⟨blk, 0, none⟩ j = ⟨blk, j, none⟩ := by
    unfold Addr.add
    split
    · subst_vars; rfl
    · simp
  rw [e, cell_of_row w blk j cs _ (0, 0) h3]
  exact h4 _ _ hu
theorem RdU.own {b base : Nat} {w : World} {A : Option Addr} {n c : Nat} {xs : List Int} (h : w.ownsRow base 23 1 (.slice A n c) n (xs.map (Value.int .u64))) (hn : n = xs.length) (hb : b < base) : RdU b w A xs := fun hne => by
  rcases h.2 with ⟨_, rfl⟩ | ⟨g, cap, cur, hv, hg, hh, hc, _, hs, ht⟩
  · exact absurd (List.eq_nil_of_length_eq_zero hn.symm) hne
  · have hA : A = some ⟨g, 0, none⟩ := by injection hv
    refine ⟨g, cur, hA, by omega, hh, fun j u hu => ?_⟩
    rw [← ht, List.getElem?_take] at hu
    split at hu
    · simpa using hu
    · cases hu
theorem RdU.at_ {b : Nat} {w : World} {A : Option Addr} {xs : List Int} (h : RdU b w A xs) {k : Nat} (hk : k < xs.length) : ∃ blk, A = some ⟨blk, 0, none⟩ ∧ w.cell? { block := blk, off := k } = some (.int .u64 xs[k]) := by
  obtain ⟨blk, cs, h1, h2, h3, h4⟩ := h (fun e => by rw [e] at hk; exact absurd hk (Nat.not_lt_zero _))
  exact ⟨blk, h1, (cell_of_row w blk k cs _ (0, 0) h3).trans (h4 _ _ (by rw [List.getElem?_map, List.getElem?_eq_getElem hk]; rfl))⟩
theorem comp_len (zs : List Int) : (Lib.compact zs).length ≤ zs.length := by
  have : ∀ (d : Array Int) m, (Lib.compactUpTo d m).length ≤ m := fun d m => by
    induction m with
    | zero => simp [Lib.compactUpTo]
    | succ m ih =>
      rw [Lib.compactUpTo_succ, List.length_append]
      split
      · simpa using ih
      · simp; omega
  exact this _ _
theorem bases_len (F : List Tw) : (basesF F).length ≤ 16 := by
  refine Nat.le_trans (comp_len _) ?_
  rw [List.length_mergeSort]
  exact Nat.le_trans (baseL_len _ _) (aliveL_len F 16)
theorem kids_le (F : List Tw) (hF : F.length = 16) (x : Int) : kidsF F x ≤ 16 := by
  unfold kidsF
  split
  · exact Nat.le_trans List.countP_le_length (by omega)
  · omega
/-- What the law keeps while it plays the acts. -/
structure St1 (w wr : World) (b g g0 : Nat) (F : List Tw) (x : Ac) : Prop where
  two : Two wr b g F
  arg : Arg wr g0 x
  bel : Below w.heap.size w wr
  lob : w.heap.size ≤ b
  log : w.heap.size ≤ g
  ab : g0 ≠ b
  ag : g0 ≠ g
theorem St1.below {w wr w2 : World} {b g g0 : Nat} {F : List Tw} {x : Ac} (h : St1 w wr b g g0 F x) (hb : Below wr.heap.size wr w2) : St1 w w2 b g g0 F x :=
  ⟨h.two.below hb, h.arg.below hb, h.bel.trans (hb.mono h.bel.size), h.lob, h.log, h.ab, h.ag⟩
theorem St1.chg {w wr w2 : World} {b g g0 : Nat} {F F2 : List Tw} {x : Ac} (h : St1 w wr b g g0 F x) (hc : Chg (fun q => q = b ∨ q = g) wr w2) (ht : Two w2 b g F2) : St1 w w2 b g g0 F2 x :=
  ⟨ht, hc.old h.arg (fun e => e.elim h.ab h.ag), hc.below h.bel h.bel.size (fun k e => e.elim (fun e => e ▸ h.lob) (fun e => e ▸ h.log)), h.lob, h.log, h.ab, h.ag⟩
/-- Behind the acts: the forest may go on alone, the document's stays, so do the bases that were. -/
structure St2 (w wr : World) (b g g0 : Nat) (F G : List Tw) (x : Ac) (A8 : Option Addr) : Prop where
  f : At wr b 69 F
  xs : ∃ A c, XAt wr g A c (refL G)
  arg : Arg wr g0 x
  r : RdU b wr A8 (basesF G)
  bel : Below w.heap.size w wr
  lob : w.heap.size ≤ b
  ab : g0 ≠ b
theorem St2.below {w wr w2 : World} {b g g0 : Nat} {F G : List Tw} {x : Ac} {A8 : Option Addr} (h : St2 w wr b g g0 F G x A8) (hb : Below wr.heap.size wr w2) : St2 w w2 b g g0 F G x A8 :=
  ⟨h.f.below hb, let ⟨A, c, hx⟩ := h.xs; ⟨A, c, hx.below hb⟩, h.arg.below hb, h.r.below hb, h.bel.trans (hb.mono h.bel.size), h.lob, h.ab⟩
theorem St2.chg {w wr w2 : World} {b g g0 : Nat} {F G F2 : List Tw} {x : Ac} {A8 : Option Addr} (h : St2 w wr b g g0 F G x A8) (hc : Chg (· = b) wr w2) (hf : At w2 b 69 F2) : St2 w w2 b g g0 F2 G x A8 :=
  ⟨hf, let ⟨A, c, hx⟩ := h.xs; ⟨A, c, hx.forest h.f hc⟩, h.arg.chg hc h.ab, h.r.chg hc, chg_below h.bel hc h.lob, h.lob, h.ab⟩
theorem St1.done {w wr : World} {b g g0 n c : Nat} {F : List Tw} {x : Ac} {A8 : Option Addr} {base : Nat} (h : St1 w wr b g g0 F x) (ho : wr.ownsRow base 23 1 (.slice A8 n c) n ((basesF F).map (Value.int .u64))) (hn : n = (basesF F).length) (hb : b < base) : St2 w wr b g g0 F F x A8 :=
  ⟨h.two.f, h.two.x, h.arg, RdU.own ho hn hb, h.bel, h.lob, h.ab⟩
theorem St2.alike {w wr : World} {b g g0 : Nat} {F : List Tw} {x : Ac} {A8 : Option Addr} (h : St2 w wr b g g0 F F x A8) (ok : Ok F) (id m : Int) :
    Calls Try.prog 22 #[.pointer (some ⟨b, 0, none⟩), .pointer (some ⟨g, 0, none⟩), .int .i64 id, .int .u64 m] wr fun e w' => e = .returned (.bool true) ∧ Below wr.heap.size wr w' :=
  let ⟨A, c, hx⟩ := h.xs; alike_is ok h.f hx id m
/-- Is a number among the first ones of a row? -/
def inB (B : List Int) (x : Int) (k : Nat) : Bool := (B.take k).any fun y => y == x
theorem inB_succ {B : List Int} {x : Int} {k : Nat} (h : k < B.length) : inB B x (k + 1) = (inB B x k || B[k] == x) := by
  unfold inB
  rw [List.take_succ_eq_append_getElem h, List.any_append]
  simp
theorem inB_all {B : List Int} {x : Int} (h : x ∈ B) : inB B x B.length = true := by
  unfold inB
  rw [List.take_length, List.any_eq_true]
  exact ⟨x, h, by simp⟩
end Go.Proofs.Ytaolpniigjmccaa.All
