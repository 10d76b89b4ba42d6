/-
  Plain: the clashes of a list of rules, and who is needless (chapter 35's plain part, over this chapter's rules); leaving out what is needless changes no minute till which a moment stays. No condition. Written by a program (gen/clashp.py) for the first part.
-/
import Derived.Test.YtonlbeonblpblaaKeepP
namespace Go.Proofs.Ytonlbeonblpblaa.All
open Go.RowKit Go.Proofs.YtonlbeonblpblaaW.PrintWords Go.Proofs.YtonlbeonblpblaaW.PrintLast Go.Proofs.YtonlbeonblpblaaW.PrintMore Go.Proofs.Ytonlbeonblpblaa.Wd
set_option linter.unusedVariables false
set_option linter.unusedSimpArgs false
/-- A clash. -/
structure Cl where
  i : Int
  j : Int
  y : Int
def kp (a : Ru) : Bool := a.k == 1 || (a.k == 2 && decide (a.l ≥ 1)) || (a.k == 3 && decide (a.l ≥ 0))
def fit (a b : Ru) : Bool := if a.k = 1 then true else if a.k = b.k then (if a.k = 2 then Int.tmod b.l a.l == 0 else decide (a.l ≤ b.l)) else false
def cov (a b : Ru) : Bool := kp a && kp b && decide (b.f ≤ a.f) && fit a b
def whyP (a b : Ru) (gt : Bool) : Int :=
  if (kp a && b.k == 4 && decide (b.f < a.f)) = true then 1
  else if (a.k == 4 && b.k == 4 && gt) = true then 2
  else if (cov b a && (!cov a b || gt)) = true then 3 else 0

def one (l : List Ru) (i j : Nat) : List Cl :=
  if i = j then [] else if whyP (l.getD i zr) (l.getD j zr) (decide (j < i)) = 0 then [] else [⟨i, j, whyP (l.getD i zr) (l.getD j zr) (decide (j < i))⟩]
def row (l : List Ru) (i n : Nat) : List Cl := (List.range n).flatMap (one l i)
def chk (l : List Ru) (m : Nat) : List Cl := (List.range m).flatMap (fun i => row l i l.length)

theorem one_len (l : List Ru) (i j : Nat) : (one l i j).length ≤ 1 := by
  unfold one
  split
  · simp
  · split <;> simp
theorem row_succ (l : List Ru) (i n : Nat) : row l i (n + 1) = row l i n ++ one l i n := by
  simp [row, List.range_succ]
theorem row_len (l : List Ru) (i : Nat) : ∀ n, (row l i n).length ≤ n
  | 0 => by simp [row]
  | n + 1 => by
    rw [row_succ, List.length_append]
    have := row_len l i n
    have := one_len l i n
    omega
theorem chk_succ (l : List Ru) (m : Nat) : chk l (m + 1) = chk l m ++ row l m l.length := by
  simp [chk, List.range_succ]
theorem chk_len (l : List Ru) : ∀ m, (chk l m).length ≤ m * l.length
  | 0 => by simp [chk]
  | m + 1 => by
    rw [chk_succ, List.length_append]
    have := chk_len l m
    have := row_len l m l.length
    rw [Nat.succ_mul]
    omega
theorem mem_one {l : List Ru} {i j : Nat} {c : Cl} : c ∈ one l i j ↔ i ≠ j ∧ whyP (l.getD i zr) (l.getD j zr) (decide (j < i)) ≠ 0 ∧ c = ⟨i, j, whyP (l.getD i zr) (l.getD j zr) (decide (j < i))⟩ := by
  unfold one
  split
  · rename_i h; simp [h]
  · rename_i h
    split
    · rename_i h'
      exact ⟨fun hc => absurd hc List.not_mem_nil, fun hc => absurd h' hc.2.1⟩
    · rename_i h'
      exact ⟨fun hc => ⟨h, h', List.mem_singleton.1 hc⟩, fun hc => List.mem_singleton.2 hc.2.2⟩
theorem mem_chk {l : List Ru} {c : Cl} : c ∈ chk l l.length ↔ ∃ i j, i < l.length ∧ j < l.length ∧ i ≠ j ∧ whyP (l.getD i zr) (l.getD j zr) (decide (j < i)) ≠ 0 ∧ c = ⟨i, j, whyP (l.getD i zr) (l.getD j zr) (decide (j < i))⟩ := by
  unfold chk row
  simp only [List.mem_flatMap, List.mem_range, mem_one]
  constructor
  · rintro ⟨i, hi, j, hj, h⟩
    exact ⟨i, j, hi, hj, h⟩
  · rintro ⟨i, j, hi, hj, h⟩
    exact ⟨i, hi, j, hj, h⟩
theorem tmod_dvd {a b : Int} : (Int.tmod b a == 0) = true ↔ a ∣ b := by
  rw [beq_iff_eq]
  exact (Int.dvd_iff_tmod_eq_zero).symm
theorem fit_trans {a b c : Ru} (h1 : fit a b = true) (h2 : fit b c = true) : fit a c = true := by
  unfold fit at *
  by_cases e1 : a.k = 1
  · simp [e1]
  · rw [if_neg e1] at h1 ⊢
    by_cases e2 : a.k = b.k
    · rw [if_pos e2] at h1
      rw [if_neg (by omega)] at h2
      by_cases e3 : b.k = c.k
      · rw [if_pos e3] at h2
        rw [if_pos (by omega)]
        by_cases e4 : a.k = 2
        · rw [if_pos e4, tmod_dvd] at h1
          rw [if_pos (by omega), tmod_dvd] at h2
          rw [if_pos e4, tmod_dvd]
          exact Int.dvd_trans h1 h2
        · rw [if_neg e4] at h1
          rw [if_neg (by omega)] at h2
          rw [if_neg e4]
          simp only [decide_eq_true_eq] at *
          omega
      · rw [if_neg e3] at h2
        cases h2
    · rw [if_neg e2] at h1
      cases h1
theorem cov_parts {a b : Ru} : cov a b = true ↔ kp a = true ∧ kp b = true ∧ b.f ≤ a.f ∧ fit a b = true := by
  unfold cov
  simp only [Bool.and_eq_true, decide_eq_true_eq]
  exact ⟨fun h => ⟨h.1.1.1, h.1.1.2, h.1.2, h.2⟩, fun h => ⟨⟨⟨h.1, h.2.1⟩, h.2.2.1⟩, h.2.2.2⟩⟩
theorem cov_trans {a b c : Ru} (h1 : cov a b = true) (h2 : cov b c = true) : cov a c = true := by
  rw [cov_parts] at *
  exact ⟨h1.1, h2.2.1, by omega, fit_trans h1.2.2.2 h2.2.2.2⟩
theorem kp_not4 {a : Ru} (h : kp a = true) : a.k ≠ 4 := by
  intro e
  simp [kp, e] at h
theorem fit_self (a : Ru) : fit a a = true := by
  unfold fit
  by_cases e1 : a.k = 1
  · simp [e1]
  · by_cases e2 : a.k = 2
    · rw [if_neg e1, if_pos rfl, if_pos e2, tmod_dvd]
      exact Int.dvd_refl _
    · rw [if_neg e1, if_pos rfl, if_neg e2]
      simp
theorem cov_self (a : Ru) : cov a a = kp a := by
  unfold cov
  simp [fit_self]
/-- A needless rule: how it is told. -/
theorem why3 {a b : Ru} {gt : Bool} : whyP a b gt = 3 ↔ cov b a = true ∧ (cov a b = false ∨ gt = true) := by
  unfold whyP
  constructor
  · intro h
    split at h
    · omega
    · split at h
      · omega
      · split at h
        · rename_i h3
          simpa [Bool.and_eq_true] using h3
        · omega
  · rintro ⟨h1, h2⟩
    have hb := (cov_parts.1 h1).1
    have ha := (cov_parts.1 h1).2.1
    have hb4 := kp_not4 hb
    have ha4 := kp_not4 ha
    rw [if_neg (by simp [hb4]), if_neg (by simp [ha4]), if_pos (by rcases h2 with h2 | h2 <;> simp [h1, h2])]

/-- Who is above whom. -/
def up (l : List Ru) (j i : Nat) : Bool := decide (i ≠ j) && (cov (l.getD j zr) (l.getD i zr) && (!cov (l.getD i zr) (l.getD j zr) || decide (j < i)))
theorem up_iff {l : List Ru} {j i : Nat} : up l j i = true ↔ i ≠ j ∧ whyP (l.getD i zr) (l.getD j zr) (decide (j < i)) = 3 := by
  rw [why3]
  unfold up
  simp [Bool.and_eq_true]
theorem up_trans {l : List Ru} {a b c : Nat} (h1 : up l a b = true) (h2 : up l b c = true) : up l a c = true := by
  rw [up_iff, why3] at *
  obtain ⟨n1, c1, d1⟩ := h1
  obtain ⟨n2, c2, d2⟩ := h2
  have c3 := cov_trans c1 c2
  simp only [decide_eq_true_eq] at *
  by_cases hd : cov (l.getD c zr) (l.getD a zr) = true
  · have e1 : cov (l.getD b zr) (l.getD a zr) = true := cov_trans c2 hd
    have e2 : cov (l.getD c zr) (l.getD b zr) = true := cov_trans hd c1
    have l : a < b := by rcases d1 with d1 | d1 <;> simp_all
    have f : b < c := by rcases d2 with d2 | d2 <;> simp_all
    exact ⟨by omega, c3, Or.inr (by omega)⟩
  · refine ⟨?_, c3, Or.inl (by simpa using hd)⟩
    rintro rfl
    rw [cov_self] at hd
    exact hd (cov_parts.1 c1).1
theorem up_irrefl (l : List Ru) (i : Nat) : up l i i = false := by simp [up]

theorem filter_lt {α : Type} {p q : α → Bool} : ∀ {l : List α}, (∀ x ∈ l, p x = true → q x = true) → (∃ x ∈ l, p x = false ∧ q x = true) → (l.filter p).length < (l.filter q).length
  | [], _, h => by obtain ⟨x, hx, _⟩ := h; cases hx
  | y :: l, hpq, h => by
    have hle : ∀ {l : List α}, (∀ x ∈ l, p x = true → q x = true) → (l.filter p).length ≤ (l.filter q).length := by
      intro l
      induction l with
      | nil => intro _; simp
      | cons z l ih =>
        intro hz
        have h1 := ih (fun x hx => hz x (List.mem_cons_of_mem _ hx))
        have h2 := hz z List.mem_cons_self
        rw [List.filter_cons, List.filter_cons]
        cases hp : p z <;> cases hq : q z <;> simp_all
        omega
    have h1 := fun x hx => hpq x (List.mem_cons_of_mem y hx)
    have h2 := hpq y List.mem_cons_self
    obtain ⟨x, hx, px, qx⟩ := h
    rw [List.filter_cons, List.filter_cons]
    rcases List.mem_cons.1 hx with rfl | hx
    · have := hle h1
      simp [px, qx]
      omega
    · have := filter_lt h1 ⟨x, hx, px, qx⟩
      cases hp : p y <;> cases hq : q y <;> simp_all
      omega

/-- Whoever is needless is covered by one who isn't. -/
theorem left_covers (l : List Ru) (out : Nat → Bool) (hout : ∀ i, i < l.length → (out i = true ↔ ∃ j, j < l.length ∧ up l j i = true)) :
    ∀ (m : Nat) (i : Nat), i < l.length → ((List.range l.length).filter (fun k => up l k i)).length ≤ m → out i = true → ∃ j, j < l.length ∧ out j = false ∧ cov (l.getD j zr) (l.getD i zr) = true
  | 0, i, hi, hm, ho => by
    obtain ⟨j, hj, hu⟩ := (hout i hi).1 ho
    have : j ∈ (List.range l.length).filter (fun k => up l k i) := List.mem_filter.2 ⟨List.mem_range.2 hj, hu⟩
    have hnil : (List.range l.length).filter (fun k => up l k i) = [] := List.eq_nil_of_length_eq_zero (by omega)
    rw [hnil] at this
    cases this
  | m + 1, i, hi, hm, ho => by
    obtain ⟨j, hj, hu⟩ := (hout i hi).1 ho
    have hc : cov (l.getD j zr) (l.getD i zr) = true := (why3.1 (up_iff.1 hu).2).1
    cases hoj : out j with
    | false => exact ⟨j, hj, hoj, hc⟩
    | true =>
      have hlt : ((List.range l.length).filter (fun k => up l k j)).length < ((List.range l.length).filter (fun k => up l k i)).length :=
        filter_lt (fun k _ hk => up_trans hk hu) ⟨j, List.mem_range.2 hj, up_irrefl l j, hu⟩
      obtain ⟨x, hx, hox, hcx⟩ := left_covers l out hout m j hj (by omega) hoj
      exact ⟨x, hx, hox, cov_trans hcx hc⟩
theorem getD_at_ {M : List Ru} {k : Nat} (h : k < M.length) : M.getD k zr = M[k] := by rw [List.getD_eq_getElem?_getD, List.getElem?_eq_getElem h]; rfl
/-- Is a rule told to be needless? -/
def ndl (l : List Ru) (i : Nat) : Bool := (chk l l.length).any fun c => decide (c.i = (i : Int)) && decide (c.y = 3)
theorem ndl_iff (l : List Ru) (i : Nat) (hi : i < l.length) : ndl l i = true ↔ ∃ j, j < l.length ∧ up l j i = true := by
  unfold ndl
  rw [List.any_eq_true]
  constructor
  · rintro ⟨c, hc, h⟩
    simp only [Bool.and_eq_true, decide_eq_true_eq] at h
    obtain ⟨a, b, ha, hb, hne, hw, rfl⟩ := mem_chk.1 hc
    have h1 : (a : Int) = i := h.1
    obtain rfl : a = i := by omega
    exact ⟨b, hb, up_iff.2 ⟨hne, h.2⟩⟩
  · rintro ⟨j, hj, hu⟩
    obtain ⟨hne, hw⟩ := up_iff.1 hu
    exact ⟨_, mem_chk.2 ⟨i, j, hi, hj, hne, by rw [hw]; decide, rfl⟩, by rw [Bool.and_eq_true]; exact ⟨decide_eq_true rfl, decide_eq_true hw⟩⟩
/-- The rules that are left. -/
def leftL (l : List Ru) (m : Nat) : List Ru := ((List.range m).filter fun i => !ndl l i).map fun i => l.getD i zr
theorem leftL_succ (l : List Ru) (m : Nat) : leftL l (m + 1) = leftL l m ++ if ndl l m = true then [] else [l.getD m zr] := by
  unfold leftL
  rw [List.range_succ, List.filter_append, List.map_append]
  cases h : ndl l m <;> simp [h]
theorem leftL_len (l : List Ru) (m : Nat) : (leftL l m).length ≤ m := by
  unfold leftL
  rw [List.length_map]
  exact Nat.le_trans (List.length_filter_le _ _) (by simp)
theorem leftL_mem {l : List Ru} {r : Ru} : r ∈ leftL l l.length ↔ ∃ i, i < l.length ∧ ndl l i = false ∧ r = l.getD i zr := by
  unfold leftL
  simp only [List.mem_map, List.mem_filter, List.mem_range, Bool.not_eq_true']
  constructor
  · rintro ⟨i, ⟨h1, h2⟩, rfl⟩; exact ⟨i, h1, h2, rfl⟩
  · rintro ⟨i, h1, h2, rfl⟩; exact ⟨i, ⟨h1, h2⟩, rfl⟩
theorem leftL_sub {l : List Ru} {r : Ru} (h : r ∈ leftL l l.length) : r ∈ l := by
  obtain ⟨i, hi, _, rfl⟩ := leftL_mem.1 h
  rw [getD_at_ hi]
  exact List.getElem_mem hi
theorem leftL_cov {l : List Ru} {r : Ru} (h : r ∈ l) : r ∈ leftL l l.length ∨ ∃ q ∈ leftL l l.length, cov q r = true := by
  obtain ⟨i, hi, rfl⟩ := List.mem_iff_getElem.1 h
  cases hn : ndl l i with
  | false => exact .inl (leftL_mem.2 ⟨i, hi, hn, (getD_at_ hi).symm⟩)
  | true =>
    obtain ⟨j, hj, hoj, hc⟩ := left_covers l (ndl l) (fun i hi => ndl_iff l i hi) _ i hi (Nat.le_refl _) hn
    rw [getD_at_ hi] at hc
    exact .inr ⟨_, leftL_mem.2 ⟨j, hj, hoj, rfl⟩, hc⟩
theorem div_div_ (a : Int) {x y : Int} (hx : 0 ≤ x) : a / (x * y) = a / x / y := by rw [Int.ediv_ediv, if_neg (by omega), Int.sub_zero]
/-- Whoever covers keeps as well. -/
theorem cov_keep {M : List It} (g : Good M) {num : Int} (hh : hit M num = true) {q r : Ru} (hc : cov q r = true) (h : keepM M num r = true) : keepM M num q = true := by
  obtain ⟨k1, k2, hf, hfit⟩ := cov_parts.1 hc
  have hr := minM_rng g num
  have hn := nextM_rng g num
  unfold fit at hfit
  unfold keepM at h ⊢
  by_cases e1 : q.k = 1
  · rw [if_pos e1]
  · rw [if_neg e1] at hfit ⊢
    by_cases e2 : q.k = r.k
    · rw [if_pos e2] at hfit
      rw [if_neg (by omega)] at h
      by_cases e3 : q.k = 2
      · rw [if_pos e3] at hfit ⊢
        rw [if_pos (by omega)] at h
        rw [tmod_dvd] at hfit
        obtain ⟨d, hd⟩ := hfit
        have hq1 : 1 ≤ q.l := by
          unfold kp at k1
          simp [e3] at k1
          exact k1
        unfold closesM at h ⊢
        rw [hh] at h ⊢
        simp only [Bool.and_eq_true, Bool.or_eq_true, Bool.true_and, decide_eq_true_eq] at h ⊢
        refine ⟨hq1, h.2.imp id fun hne he => hne ?_⟩
        have hd0 : 0 < d := by
          rcases Int.lt_trichotomy d 0 with h0 | h0 | h0
          · have := Int.mul_lt_mul_of_pos_left h0 (show 0 < q.l by omega)
            omega
          · rw [h0, Int.mul_zero] at hd; omega
          · exact h0
        rw [hd, div_div_ _ (show 0 ≤ q.l by omega), div_div_ _ (show 0 ≤ q.l by omega), he]
      · rw [if_neg e3] at hfit ⊢
        rw [if_neg (by omega)] at h
        unfold quietM at h ⊢
        rw [hh] at h ⊢
        have hq0 : 0 ≤ q.l := by
          unfold kp at k1
          simp [e1, e3] at k1
          exact k1.2
        simp only [Bool.and_eq_true, Bool.or_eq_true, Bool.true_and, decide_eq_true_eq] at h hfit ⊢
        exact ⟨hq0, h.2.imp id fun h => by omega⟩
    · rw [if_neg e2] at hfit
      cases hfit
theorem span_mono (N : Int × Bool) {q r : Ru} (h : r.f ≤ q.f) : spanN N r ≤ spanN N q := by
  unfold spanN
  split
  · omega
  · exact h
theorem left_never (l : List Ru) : neverF (leftL l l.length) = neverF l := by
  have hs := never_spec l
  refine nvs_uniq (never_spec _) (Q := leftL l l.length) ?_ (fun _ => Iff.rfl)
  have hm : ∀ r ∈ l, r.k = 4 → r ∈ leftL l l.length := fun r hr hk => by
    rcases leftL_cov hr with h | ⟨q, _, hc⟩
    · exact h
    · exact absurd hk (kp_not4 (cov_parts.1 hc).2.1)
  rcases hs with ⟨h1, h2, h3⟩ | ⟨h1, ⟨q, hq, h2, h3⟩, h4⟩
  · exact .inl ⟨h1, h2, fun r hr => h3 r (leftL_sub hr)⟩
  · exact .inr ⟨h1, ⟨q, hm q hq h2, h2, h3⟩, fun r hr hk => h4 r (leftL_sub hr) hk⟩
theorem left_till (l : List Ru) {M : List It} (g : Good M) (num : Int) : tl (leftL l l.length) M num = tl l M num := by
  have hN := left_never l
  show tillF M num (neverF (leftL l l.length)) _ = tillF M num (neverF l) _
  rw [hN]
  generalize neverF l = N
  have sub : ∀ r, r ∈ ksOf (leftL l l.length) → r ∈ ksOf l := fun r hr => (ks_mem _ _).2 ⟨leftL_sub ((ks_mem _ _).1 hr).1, ((ks_mem _ _).1 hr).2⟩
  rcases till_cases M num N (ksOf (leftL l l.length)) with ⟨h1, h2⟩ | ⟨hh, ⟨r, hr, hk, e⟩, hmax⟩
  · rcases till_cases M num N (ksOf l) with ⟨h3, _⟩ | ⟨hh, ⟨r, hr, hk, e⟩, hmax⟩
    · rw [h1, h3]
    · exfalso
      rcases leftL_cov ((ks_mem _ _).1 hr).1 with h | ⟨q, hq, hc⟩
      · have := h2 hh r ((ks_mem _ _).2 ⟨h, ((ks_mem _ _).1 hr).2⟩)
        rw [this] at hk
        cases hk
      · have := h2 hh q ((ks_mem _ _).2 ⟨hq, kp_not4 (cov_parts.1 hc).1⟩)
        rw [cov_keep g hh hc hk] at this
        cases this
  · rcases till_cases M num N (ksOf l) with ⟨h3, h4⟩ | ⟨_, ⟨r2, hr2, hk2, e2⟩, hmax2⟩
    · have := h4 hh r (sub r hr)
      rw [this] at hk
      cases hk
    · have a1 := hmax2 r (sub r hr) hk
      rcases leftL_cov ((ks_mem _ _).1 hr2).1 with h | ⟨q, hq, hc⟩
      · have a2 := hmax r2 ((ks_mem _ _).2 ⟨h, ((ks_mem _ _).1 hr2).2⟩) hk2
        omega
      · have a2 := hmax q ((ks_mem _ _).2 ⟨hq, kp_not4 (cov_parts.1 hc).1⟩) (cov_keep g hh hc hk2)
        have a3 := span_mono N (cov_parts.1 hc).2.2.1
        omega
theorem left_rt {l : List Ru} (h : Rt l) : Rt (leftL l l.length) := ⟨Nat.le_trans (leftL_len l l.length) h.len, fun r hr => h.r r (leftL_sub hr)⟩
theorem left_sy (l : List Ru) {M : List It} (g : Good M) (num now : Int) : sy (leftL l l.length) M num now = sy l M num now := by
  show (hit M num && decide (now < tl (leftL l l.length) M num)) = (hit M num && decide (now < tl l M num))
  rw [left_till l g]
end Go.Proofs.Ytonlbeonblpblaa.All
