/-
  Plain facts on clashes: the clashes of what is picked out of a list are those of the whole whose rules are both picked; covering is transitive; whoever is needless is covered by one who isn't. No condition.
-/
import Derived.Test.YtlfkdbfbkgcgnaaCheckA
namespace Go.Proofs.Ytlfkdbfbkgcgnaa.Pl
open Go.RowKit Go.Proofs.Ytlfkdbfbkgcgnaa.All Go.Proofs.YtlfkdbfbkgcgnaaW.PrintWords
set_option linter.unusedVariables false
set_option linter.unusedSimpArgs false

/-! ### picking -/
def idx (sel : Nat → Bool) (n : Nat) : List Nat := (List.range n).filter sel
def rank (sel : Nat → Bool) (i : Nat) : Nat := (idx sel i).length
def pick (l : List S33) (sel : Nat → Bool) : List S33 := (idx sel l.length).map (fun i => l.getD i z33)
def moved (sel : Nat → Bool) (c : S30) : Option S30 := if (sel c.f0.toNat && sel c.f1.toNat) = true then some ⟨rank sel c.f0.toNat, rank sel c.f1.toNat, c.f2⟩ else none

theorem idx_succ (sel : Nat → Bool) (n : Nat) : idx sel (n + 1) = if sel n = true then idx sel n ++ [n] else idx sel n := by
  unfold idx
  rw [List.range_succ, List.filter_append]
  cases h : sel n <;> simp [h]
theorem rank_succ (sel : Nat → Bool) (n : Nat) : rank sel (n + 1) = if sel n = true then rank sel n + 1 else rank sel n := by
  unfold rank
  rw [idx_succ]
  split <;> simp
theorem rank_le (sel : Nat → Bool) : ∀ n, rank sel n ≤ n
  | 0 => by simp [rank, idx]
  | n + 1 => by
    have := rank_le sel n
    rw [rank_succ]
    split <;> omega
theorem rank_mono (sel : Nat → Bool) {i : Nat} : ∀ d, rank sel i ≤ rank sel (i + d)
  | 0 => Nat.le_refl _
  | d + 1 => by
    have := rank_mono sel (i := i) d
    rw [← Nat.add_assoc, rank_succ]
    split <;> omega
theorem rank_lt (sel : Nat → Bool) {i j : Nat} (hi : sel i = true) (h : i < j) : rank sel i < rank sel j := by
  have h1 : rank sel (i + 1) = rank sel i + 1 := by rw [rank_succ, if_pos hi]
  have h2 := rank_mono sel (i := i + 1) (j - (i + 1))
  rw [show i + 1 + (j - (i + 1)) = j by omega] at h2
  omega
theorem rank_cmp (sel : Nat → Bool) {i j : Nat} (hi : sel i = true) (hj : sel j = true) : decide (rank sel j < rank sel i) = decide (j < i) := by
  rcases Nat.lt_trichotomy i j with h | h | h
  · have := rank_lt sel hi h
    have h1 : ¬ rank sel j < rank sel i := by omega
    have h2 : ¬ j < i := by omega
    simp [h1, h2]
  · subst h; simp
  · have := rank_lt sel hj h
    simp [this, h]
theorem rank_inj (sel : Nat → Bool) {i j : Nat} (hi : sel i = true) (hj : sel j = true) : rank sel i = rank sel j ↔ i = j := by
  constructor
  · intro h
    rcases Nat.lt_trichotomy i j with h' | h' | h'
    · have := rank_lt sel hi h'; omega
    · exact h'
    · have := rank_lt sel hj h'; omega
  · intro h; rw [h]

/-- What is picked stands at its rank. -/
theorem idx_rank (sel : Nat → Bool) {i : Nat} (hi : sel i = true) : ∀ n, i < n → (idx sel n)[rank sel i]? = some i
  | n + 1, h => by
    rw [idx_succ]
    by_cases hin : i < n
    · have ih := idx_rank sel hi n hin
      split
      · rw [List.getElem?_append_left (List.getElem?_eq_some_iff.1 ih).1]
        exact ih
      · exact ih
    · obtain rfl : i = n := by omega
      rw [if_pos hi]
      show (idx sel i ++ [i])[(idx sel i).length]? = some i
      simp
theorem pick_len (l : List S33) (sel : Nat → Bool) : (pick l sel).length = rank sel l.length := by simp [pick, rank]
theorem pick_at (l : List S33) (sel : Nat → Bool) {i : Nat} (hi : sel i = true) (h : i < l.length) : (pick l sel).getD (rank sel i) z33 = l.getD i z33 := by
  unfold pick
  rw [List.getD_eq_getElem?_getD, List.getElem?_map, idx_rank sel hi _ h]
  rfl
theorem pick_rank_lt (l : List S33) (sel : Nat → Bool) {i : Nat} (hi : sel i = true) (h : i < l.length) : rank sel i < (pick l sel).length := by
  rw [pick_len]
  exact rank_lt sel hi h

theorem flatMap_idx {β : Type} (sel : Nat → Bool) (F : Nat → List β) (hF : ∀ i, sel i = false → F i = []) : ∀ n, (List.range n).flatMap F = (idx sel n).flatMap F
  | 0 => by simp [idx]
  | n + 1 => by
    rw [List.range_succ, List.flatMap_append, flatMap_idx sel F hF n, idx_succ]
    cases h : sel n with
    | true => simp
    | false => simp [hF n h]
theorem flatMap_rank {β : Type} (sel : Nat → Bool) (F G : Nat → List β) : ∀ n, (∀ i, i < n → sel i = true → F i = G (rank sel i)) → (idx sel n).flatMap F = (List.range (rank sel n)).flatMap G
  | 0, _ => by simp [idx, rank]
  | n + 1, h => by
    have ih := flatMap_rank sel F G n (fun i hi hs => h i (by omega) hs)
    rw [idx_succ, rank_succ]
    cases hs : sel n with
    | true =>
      simp only [if_true]
      rw [List.flatMap_append, ih, List.range_succ, List.flatMap_append]
      simp [h n (by omega) hs]
    | false =>
      simp only [Bool.false_eq_true, if_false]
      exact ih

theorem filterMap_flatMap {α β γ : Type} (g : β → Option γ) (F : α → List β) : ∀ l : List α, (l.flatMap F).filterMap g = l.flatMap (fun x => (F x).filterMap g)
  | [] => rfl
  | x :: l => by rw [List.flatMap_cons, List.flatMap_cons, List.filterMap_append, filterMap_flatMap g F l]

theorem flatMap_congr' {α β : Type} {F G : α → List β} : ∀ {l : List α}, (∀ x ∈ l, F x = G x) → l.flatMap F = l.flatMap G
  | [], _ => rfl
  | x :: l, h => by
    rw [List.flatMap_cons, List.flatMap_cons, h x List.mem_cons_self, flatMap_congr' (fun y hy => h y (List.mem_cons_of_mem _ hy))]
theorem flatMap_none {α β : Type} {F : α → List β} : ∀ {l : List α}, (∀ x ∈ l, F x = []) → l.flatMap F = []
  | [], _ => rfl
  | x :: l, h => by
    rw [List.flatMap_cons, h x List.mem_cons_self, flatMap_none (fun y hy => h y (List.mem_cons_of_mem _ hy))]
    rfl

theorem one_moved (l : List S33) (sel : Nat → Bool) {i j : Nat} (hi : i < l.length) (hj : j < l.length) (si : sel i = true) (sj : sel j = true) :
    (one l i j).filterMap (moved sel) = one (pick l sel) (rank sel i) (rank sel j) := by
  unfold one
  rw [pick_at l sel si hi, pick_at l sel sj hj, rank_cmp sel si sj]
  by_cases hij : i = j
  · subst hij; simp
  · have hr : rank sel i ≠ rank sel j := fun h => hij ((rank_inj sel si sj).1 h)
    rw [if_neg hij, if_neg hr]
    split
    · rfl
    · simp [moved, si, sj]
theorem one_unmoved (l : List S33) (sel : Nat → Bool) {i j : Nat} (h : (sel i && sel j) = false) : (one l i j).filterMap (moved sel) = [] := by
  unfold one
  split
  · rfl
  · split
    · rfl
    · simp [moved, h]

theorem row_moved (l : List S33) (sel : Nat → Bool) {i : Nat} (hi : i < l.length) (si : sel i = true) : (row l i l.length).filterMap (moved sel) = row (pick l sel) (rank sel i) (pick l sel).length := by
  unfold row
  rw [filterMap_flatMap, flatMap_idx sel _ (fun j hj => one_unmoved l sel (by simp [hj])), pick_len]
  exact flatMap_rank sel _ _ l.length (fun j hj sj => one_moved l sel hi hj si sj)
theorem row_unmoved (l : List S33) (sel : Nat → Bool) {i : Nat} (si : sel i = false) (n : Nat) : (row l i n).filterMap (moved sel) = [] := by
  unfold row
  rw [filterMap_flatMap]
  exact flatMap_none (fun j _ => one_unmoved l sel (by simp [si]))

/-- THE CLASHES OF A PART. -/
theorem chk_pick (l : List S33) (sel : Nat → Bool) : chk (pick l sel) (pick l sel).length = (chk l l.length).filterMap (moved sel) := by
  unfold chk
  rw [filterMap_flatMap, flatMap_idx sel _ (fun i hi => row_unmoved l sel hi _), pick_len]
  refine (flatMap_rank sel _ _ l.length (fun i hi si => ?_)).symm
  rw [row_moved l sel hi si, pick_len]

/-! ### covering -/
theorem tmod_dvd {a b : Int} : (Int.tmod b a == 0) = true ↔ a ∣ b := by
  rw [beq_iff_eq]
  exact (Int.dvd_iff_tmod_eq_zero).symm
theorem fit_trans {a b c : S33} (h1 : fit a b = true) (h2 : fit b c = true) : fit a c = true := by
  unfold fit at *
  by_cases e1 : a.f0 = 1
  · simp [e1]
  · rw [if_neg e1] at h1 ⊢
    by_cases e2 : a.f0 = b.f0
    · rw [if_pos e2] at h1
      rw [if_neg (by omega)] at h2
      by_cases e3 : b.f0 = c.f0
      · rw [if_pos e3] at h2
        rw [if_pos (by omega)]
        by_cases e4 : a.f0 = 2
        · rw [if_pos e4, tmod_dvd] at h1
          rw [if_pos (by omega), tmod_dvd] at h2
          rw [if_pos e4, tmod_dvd]
          exact Int.dvd_trans h1 h2
        · rw [if_neg e4] at h1
          rw [if_neg (by omega)] at h2
          rw [if_neg e4]
          simp only [decide_eq_true_eq] at *
          omega
      · rw [if_neg e3] at h2
        cases h2
    · rw [if_neg e2] at h1
      cases h1
theorem cov_parts {a b : S33} : cov a b = true ↔ kp a = true ∧ kp b = true ∧ b.f2 ≤ a.f2 ∧ fit a b = true := by
  unfold cov
  simp only [Bool.and_eq_true, decide_eq_true_eq]
  exact ⟨fun h => ⟨h.1.1.1, h.1.1.2, h.1.2, h.2⟩, fun h => ⟨⟨⟨h.1, h.2.1⟩, h.2.2.1⟩, h.2.2.2⟩⟩
theorem cov_trans {a b c : S33} (h1 : cov a b = true) (h2 : cov b c = true) : cov a c = true := by
  rw [cov_parts] at *
  exact ⟨h1.1, h2.2.1, by omega, fit_trans h1.2.2.2 h2.2.2.2⟩
theorem kp_not4 {a : S33} (h : kp a = true) : a.f0 ≠ 4 := by
  intro e
  simp [kp, e] at h
theorem fit_self (a : S33) : fit a a = true := by
  unfold fit
  by_cases e1 : a.f0 = 1
  · simp [e1]
  · by_cases e2 : a.f0 = 2
    · rw [if_neg e1, if_pos rfl, if_pos e2, tmod_dvd]
      exact Int.dvd_refl _
    · rw [if_neg e1, if_pos rfl, if_neg e2]
      simp
theorem cov_self (a : S33) : cov a a = kp a := by
  unfold cov
  simp [fit_self]
/-- A needless rule: how it is told. -/
theorem why3 {a b : S33} {gt : Bool} : whyP a b gt = 3 ↔ cov b a = true ∧ (cov a b = false ∨ gt = true) := by
  unfold whyP
  constructor
  · intro h
    split at h
    · omega
    · split at h
      · omega
      · split at h
        · rename_i h3
          simpa [Bool.and_eq_true] using h3
        · omega
  · rintro ⟨h1, h2⟩
    have hb := (cov_parts.1 h1).1
    have ha := (cov_parts.1 h1).2.1
    have hb4 := kp_not4 hb
    have ha4 := kp_not4 ha
    rw [if_neg (by simp [hb4]), if_neg (by simp [ha4]), if_pos (by rcases h2 with h2 | h2 <;> simp [h1, h2])]

/-- Who is above whom. -/
def up (l : List S33) (j i : Nat) : Bool := decide (i ≠ j) && (cov (l.getD j z33) (l.getD i z33) && (!cov (l.getD i z33) (l.getD j z33) || decide (j < i)))
theorem up_iff {l : List S33} {j i : Nat} : up l j i = true ↔ i ≠ j ∧ whyP (l.getD i z33) (l.getD j z33) (decide (j < i)) = 3 := by
  rw [why3]
  unfold up
  simp [Bool.and_eq_true]
theorem up_trans {l : List S33} {a b c : Nat} (h1 : up l a b = true) (h2 : up l b c = true) : up l a c = true := by
  rw [up_iff, why3] at *
  obtain ⟨n1, c1, d1⟩ := h1
  obtain ⟨n2, c2, d2⟩ := h2
  have c3 := cov_trans c1 c2
  simp only [decide_eq_true_eq] at *
  by_cases hd : cov (l.getD c z33) (l.getD a z33) = true
  · have e1 : cov (l.getD b z33) (l.getD a z33) = true := cov_trans c2 hd
    have e2 : cov (l.getD c z33) (l.getD b z33) = true := cov_trans hd c1
    have f1 : a < b := by rcases d1 with d1 | d1 <;> simp_all
    have f2 : b < c := by rcases d2 with d2 | d2 <;> simp_all
    exact ⟨by omega, c3, Or.inr (by omega)⟩
  · refine ⟨?_, c3, Or.inl (by simpa using hd)⟩
    rintro rfl
    rw [cov_self] at hd
    exact hd (cov_parts.1 c1).1
theorem up_irrefl (l : List S33) (i : Nat) : up l i i = false := by simp [up]

theorem filter_lt {α : Type} {p q : α → Bool} : ∀ {l : List α}, (∀ x ∈ l, p x = true → q x = true) → (∃ x ∈ l, p x = false ∧ q x = true) → (l.filter p).length < (l.filter q).length
  | [], _, h => by obtain ⟨x, hx, _⟩ := h; cases hx
  | y :: l, hpq, h => by
    have hle : ∀ {l : List α}, (∀ x ∈ l, p x = true → q x = true) → (l.filter p).length ≤ (l.filter q).length := by
      intro l
      induction l with
      | nil => intro _; simp
      | cons z l ih =>
        intro hz
        have h1 := ih (fun x hx => hz x (List.mem_cons_of_mem _ hx))
        have h2 := hz z List.mem_cons_self
        rw [List.filter_cons, List.filter_cons]
        cases hp : p z <;> cases hq : q z <;> simp_all
        omega
    have h1 := fun x hx => hpq x (List.mem_cons_of_mem y hx)
    have h2 := hpq y List.mem_cons_self
    obtain ⟨x, hx, px, qx⟩ := h
    rw [List.filter_cons, List.filter_cons]
    rcases List.mem_cons.1 hx with rfl | hx
    · have := hle h1
      simp [px, qx]
      omega
    · have := filter_lt h1 ⟨x, hx, px, qx⟩
      cases hp : p y <;> cases hq : q y <;> simp_all
      omega

/-- Whoever is needless is covered by one who isn't. -/
theorem left_covers (l : List S33) (out : Nat → Bool) (hout : ∀ i, i < l.length → (out i = true ↔ ∃ j, j < l.length ∧ up l j i = true)) :
    ∀ (m : Nat) (i : Nat), i < l.length → ((List.range l.length).filter (fun k => up l k i)).length ≤ m → out i = true → ∃ j, j < l.length ∧ out j = false ∧ cov (l.getD j z33) (l.getD i z33) = true
  | 0, i, hi, hm, ho => by
    obtain ⟨j, hj, hu⟩ := (hout i hi).1 ho
    have : j ∈ (List.range l.length).filter (fun k => up l k i) := List.mem_filter.2 ⟨List.mem_range.2 hj, hu⟩
    have hnil : (List.range l.length).filter (fun k => up l k i) = [] := List.eq_nil_of_length_eq_zero (by omega)
    rw [hnil] at this
    cases this
  | m + 1, i, hi, hm, ho => by
    obtain ⟨j, hj, hu⟩ := (hout i hi).1 ho
    have hc : cov (l.getD j z33) (l.getD i z33) = true := (why3.1 (up_iff.1 hu).2).1
    cases hoj : out j with
    | false => exact ⟨j, hj, hoj, hc⟩
    | true =>
      have hlt : ((List.range l.length).filter (fun k => up l k j)).length < ((List.range l.length).filter (fun k => up l k i)).length :=
        filter_lt (fun k _ hk => up_trans hk hu) ⟨j, List.mem_range.2 hj, up_irrefl l j, hu⟩
      obtain ⟨x, hx, hox, hcx⟩ := left_covers l out hout m j hj (by omega) hoj
      exact ⟨x, hx, hox, cov_trans hcx hc⟩
end Go.Proofs.Ytlfkdbfbkgcgnaa.Pl
