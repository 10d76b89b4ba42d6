/-
  The document's forest (a list of those that are alive, by their ids) in plain Lean, and how it follows the program's: whatever is forked and dropped, both tell the same. No condition.
-/
import Derived.Test.YtaolpniigjmccaaGrow
namespace Go.Proofs.Ytaolpniigjmccaa.Wd
open Go.RowKit Go.Proofs.YtaolpniigjmccaaW.PrintWords
set_option linter.unusedVariables false
set_option linter.unusedSimpArgs false

/-- A branch that is alive. -/
structure Br where
  id : Int
  p : Int
  b : Int
  n : Int
def zb : Br := ⟨0, 0, 0, 0⟩
def brc (x : Br) : List Value := [.int .i64 x.id, .int .i64 x.p, .int .u64 x.b, .int .u64 x.n]
def brcs (l : List Br) : List Value := l.flatMap brc
theorem brcs_len : ∀ l : List Br, (brcs l).length = l.length * 4
  | [] => rfl
  | s :: l => by
    show (brc s ++ brcs l).length = _
    rw [List.length_append, brcs_len l, List.length_cons]
    show 4 + l.length * 4 = _
    omega
theorem brcs_append (l k : List Br) : brcs (l ++ k) = brcs l ++ brcs k := List.flatMap_append
theorem brcs_get : ∀ (l : List Br) (i j : Nat) (h : i < l.length), j < 4 → (brcs l)[i * 4 + j]? = (brc l[i])[j]?
  | s :: l, 0, j, h, hj => by
    show (brc s ++ brcs l)[0 * 4 + j]? = _
    rw [Nat.zero_mul, Nat.zero_add, List.getElem?_append_left (by show j < 4; exact hj)]
    rfl
  | s :: l, i + 1, j, h, hj => by
    show (brc s ++ brcs l)[(i + 1) * 4 + j]? = _
    rw [List.getElem?_append_right (by show 4 ≤ _; omega), show (i + 1) * 4 + j - (brc s).length = i * 4 + j by show _ - 4 = _; omega, brcs_get l i j (by simpa using h) hj]
    rfl
/-- The document's list of a forest. -/
def ref (F : List Tw) (k : Nat) : List Br := ((List.range k).filter fun (i : Nat) => (tw F (i : Int)).a).map fun (i : Nat) => ⟨(i : Int), (tw F (i : Int)).p, (tw F (i : Int)).b, (tw F (i : Int)).n⟩
def refL (F : List Tw) : List Br := ref F 16
theorem ref_yes {F : List Tw} {k : Nat} (h : (tw F (k : Int)).a = true) : ref F (k + 1) = ref F k ++ [⟨(k : Int), (tw F (k : Int)).p, (tw F (k : Int)).b, (tw F (k : Int)).n⟩] := by
  unfold ref
  rw [List.range_succ, List.filter_append, List.map_append]
  simp [h]
theorem ref_no {F : List Tw} {k : Nat} (h : (tw F (k : Int)).a = false) : ref F (k + 1) = ref F k := by
  unfold ref
  rw [List.range_succ, List.filter_append, List.map_append]
  simp [h]
theorem ref_len (F : List Tw) (k : Nat) : (ref F k).length ≤ k := by
  unfold ref
  rw [List.length_map]
  exact Nat.le_trans (List.length_filter_le _ _) (by simp)
/-- Where a branch stands: how many with a lesser id are alive. -/
def pos (F : List Tw) (k : Nat) : Nat := (ref F k).length
theorem ref_prefix (F : List Tw) {k n : Nat} (h : k ≤ n) : ref F k <+: ref F n := by
  induction n with
  | zero => obtain rfl : k = 0 := by omega
            exact List.prefix_rfl
  | succ n ih =>
    by_cases hk : k = n + 1
    · rw [hk]; exact List.prefix_rfl
    · have := ih (by omega)
      cases ha : (tw F (n : Int)).a with
      | true => rw [ref_yes ha]; exact this.trans (List.prefix_append _ _)
      | false => rw [ref_no ha]; exact this
theorem ref_mem {F : List Tw} {k : Nat} {x : Br} (h : x ∈ ref F k) : ∃ i : Nat, i < k ∧ (tw F (i : Int)).a = true ∧ x = ⟨(i : Int), (tw F (i : Int)).p, (tw F (i : Int)).b, (tw F (i : Int)).n⟩ := by
  unfold ref at h
  obtain ⟨i, hi, rfl⟩ := List.mem_map.1 h
  obtain ⟨h1, h2⟩ := List.mem_filter.1 hi
  exact ⟨i, by simpa using h1, h2, rfl⟩
theorem ref_at {F : List Tw} {k : Nat} (h : (tw F (k : Int)).a = true) (n : Nat) (hn : k < n) : (ref F n)[pos F k]? = some ⟨(k : Int), (tw F (k : Int)).p, (tw F (k : Int)).b, (tw F (k : Int)).n⟩ := by
  have h1 := ref_prefix F (show k + 1 ≤ n by omega)
  rw [ref_yes h] at h1
  obtain ⟨t, ht⟩ := h1
  unfold pos
  rw [← ht, List.append_assoc, List.getElem?_append_right (Nat.le_refl _)]
  simp
/-- The rest, behind a branch. -/
theorem ref_split (F : List Tw) (k : Nat) : ∀ n, k ≤ n → ∃ t, ref F n = ref F k ++ t ∧ ∀ x ∈ t, (k : Int) ≤ x.id
  | 0, h => ⟨[], by rw [show k = 0 by omega]; simp, by simp⟩
  | n + 1, h => by
    by_cases hk : k = n + 1
    · subst hk; exact ⟨[], by simp, by simp⟩
    · obtain ⟨t, ht, hx⟩ := ref_split F k n (by omega)
      cases ha : (tw F (n : Int)).a with
      | true => exact ⟨t ++ [_], by rw [ref_yes ha, ht, List.append_assoc], fun x hm => by
          rcases List.mem_append.1 hm with hm | hm
          · exact hx x hm
          · rw [List.mem_singleton.1 hm]; show (k : Int) ≤ (n : Int); omega⟩
      | false => exact ⟨t, by rw [ref_no ha, ht], hx⟩
theorem ref_lt {F : List Tw} {k : Nat} {x : Br} (h : x ∈ ref F k) : x.id < (k : Int) := by
  obtain ⟨i, h1, _, rfl⟩ := ref_mem h
  show (i : Int) < (k : Int)
  omega
/-- Find: the place, or -1. -/
def findL : List Br → Int → Nat → Int
  | [], _, _ => -1
  | x :: l, id, i => if x.id = id then (i : Int) else findL l id (i + 1)
theorem find_none : ∀ (l : List Br) (id : Int) (i : Nat), (∀ x ∈ l, x.id ≠ id) → findL l id i = -1
  | [], _, _, _ => rfl
  | x :: l, id, i, h => by
    unfold findL
    rw [if_neg (h x (.head _)), find_none l id (i + 1) (fun y hy => h y (.tail _ hy))]
theorem find_some : ∀ (l t : List Br) (y : Br) (i : Nat), (∀ x ∈ l, x.id ≠ y.id) → findL (l ++ y :: t) y.id i = ((i + l.length : Nat) : Int)
  | [], t, y, i, _ => by
    show (if y.id = y.id then _ else _) = _
    rw [if_pos rfl]
    simp
  | x :: l, t, y, i, h => by
    show (if x.id = y.id then _ else findL (l ++ y :: t) y.id (i + 1)) = _
    rw [if_neg (h x (.head _)), find_some l t y (i + 1) (fun z hz => h z (.tail _ hz))]
    simp only [List.length_cons]
    omega
/-- What the document's forest is, and the program's. -/
theorem find_ref {F : List Tw} (ok : Ok F) (id : Int) : findL (refL F) id 0 = if isSon F id = true then ((pos F id.toNat : Nat) : Int) else -1 := by
  by_cases h : isSon F id = true
  · rw [if_pos h]
    obtain ⟨h1, h2, h3, h4, h5⟩ := son_parts h
    obtain ⟨k, rfl⟩ : ∃ k : Nat, id = (k : Int) := ⟨id.toNat, by omega⟩
    obtain ⟨t, ht⟩ := ref_prefix F (show k + 1 ≤ 16 by omega)
    rw [ref_yes h5] at ht
    unfold refL
    rw [← ht, List.append_assoc]
    have := find_some (ref F k) t ⟨(k : Int), (tw F (k : Int)).p, (tw F (k : Int)).b, (tw F (k : Int)).n⟩ 0 (fun x hx => by have := ref_lt hx; show x.id ≠ (k : Int); omega)
    rw [Nat.zero_add] at this
    exact this
  · rw [if_neg h]
    refine find_none _ _ _ fun x hx he => h ?_
    obtain ⟨i, h1, h2, rfl⟩ := ref_mem hx
    have hi0 : (i : Int) ≠ 0 := by
      intro hz
      rw [hz, ok.zero] at h2
      cases h2
    show isSon F id = true
    rw [← (show (i : Int) = id from he)]
    exact isSon_of (by rw [alive_in (by omega) (by omega) hi0]; exact h2) hi0
theorem alive_ref {F : List Tw} (ok : Ok F) (id : Int) : (id == 0 || decide (0 ≤ findL (refL F) id 0)) = aliveF F id := by
  rw [find_ref ok]
  by_cases hz : id = 0
  · subst hz; rw [alive_zero]; rfl
  · by_cases h : isSon F id = true
    · rw [if_pos h, (son_parts h).1]
      simp
    · rw [if_neg h]
      have : aliveF F id = false := by
        cases ha : aliveF F id with
        | false => rfl
        | true => exact absurd (isSon_of ha hz) h
      rw [this]
      simp [hz]
/-- The branch at a place. -/
theorem ref_son {F : List Tw} {id : Int} (h : isSon F id = true) : (refL F)[pos F id.toNat]? = some ⟨id, (tw F id).p, (tw F id).b, (tw F id).n⟩ := by
  obtain ⟨h1, h2, h3, h4, h5⟩ := son_parts h
  obtain ⟨k, rfl⟩ : ∃ k : Nat, id = (k : Int) := ⟨id.toNat, by omega⟩
  exact ref_at h5 16 (by omega)
theorem countP_range {p : Nat → Bool} : ∀ (F : List Tw) (q : Tw → Bool) (n : Nat), F.length = n → (∀ i, i < n → p i = q (F.getD i tz)) → ((List.range n).filter p).length = F.countP q
  | F, q, n, hn, h => by
    have key : ∀ m, m ≤ n → ((List.range m).filter p).length = (F.take m).countP q := by
      intro m
      induction m with
      | zero => simp
      | succ m ih =>
        intro hm
        rw [List.range_succ, List.filter_append, List.length_append, ih (by omega), List.take_add_one, List.getElem?_eq_getElem (by omega), List.countP_append]
        have := h m (by omega)
        rw [List.getD_eq_getElem?_getD, List.getElem?_eq_getElem (by omega)] at this
        simp only [Option.getD_some] at this
        simp only [List.filter_cons, List.filter_nil, Option.toList_some, List.countP_cons, List.countP_nil, this]
        split <;> simp
    rw [key n (Nat.le_refl _), ← hn, List.take_length]
/-- Kids, as the document counts. -/
theorem kids_ref {F : List Tw} (ok : Ok F) (id : Int) : (refL F).countP (fun x => x.p == id) = kidsF F id := by
  have e1 : (refL F).countP (fun x => x.p == id) = F.countP (fun t => t.a && t.p == id) := by
    unfold refL ref
    rw [List.countP_map, List.countP_filter, List.countP_eq_length_filter]
    refine countP_range F _ 16 ok.len fun i hi => ?_
    have : F.getD i tz = tw F (i : Int) := by unfold tw; rw [Int.toNat_natCast]
    rw [this, Bool.and_comm]
    rfl
  rw [e1]
  unfold kidsF
  by_cases ha : aliveF F id = true
  · rw [if_pos ha]
  · rw [if_neg ha, List.countP_eq_zero]
    intro t ht hp
    obtain ⟨i, hi, rfl⟩ := List.mem_iff_getElem.1 ht
    simp only [Bool.and_eq_true, beq_iff_eq] at hp
    have e : tw F (i : Int) = F[i] := by unfold tw; rw [Int.toNat_natCast, List.getD_eq_getElem?_getD, List.getElem?_eq_getElem hi]; rfl
    rw [← e] at hp
    have hi0 : (i : Int) ≠ 0 := by
      intro hz
      rw [hz, ok.zero] at hp
      exact absurd hp.1 (by decide)
    have := (ok.son (i : Int) (isSon_of (by rw [alive_in (by omega) (by have := ok.len; omega) hi0]; exact hp.1) hi0)).1
    rw [hp.2] at this
    exact ha this
/-! ### forks and drops -/
theorem ref_agree {F G : List Tw} : ∀ n, (∀ i : Nat, i < n → tw G (i : Int) = tw F (i : Int)) → ref G n = ref F n
  | 0, _ => by simp [ref]
  | n + 1, h => by
    have ih := ref_agree n (fun i hi => h i (by omega))
    have hn := h n (by omega)
    cases ha : (tw F (n : Int)).a with
    | true => rw [ref_yes (by rw [hn]; exact ha), ref_yes ha, ih, hn]
    | false => rw [ref_no (by rw [hn]; exact ha), ref_no ha, ih]
theorem ref_tail {F G : List Tw} (k : Nat) : ∀ n, k ≤ n → (∀ i : Nat, k ≤ i → i < n → tw G (i : Int) = tw F (i : Int)) → ∃ t, ref F n = ref F k ++ t ∧ ref G n = ref G k ++ t ∧ ∀ x ∈ t, (k : Int) ≤ x.id
  | 0, h, _ => ⟨[], by rw [show k = 0 by omega]; simp, by rw [show k = 0 by omega]; simp, by simp⟩
  | n + 1, h, hag => by
    by_cases hk : k = n + 1
    · subst hk; exact ⟨[], by simp, by simp, by simp⟩
    · obtain ⟨t, h1, h2, h3⟩ := ref_tail (F := F) (G := G) k n (by omega) (fun i a b => hag i a (by omega))
      have hn := hag n (by omega) (by omega)
      cases ha : (tw F (n : Int)).a with
      | true => exact ⟨t ++ [⟨(n : Int), (tw F (n : Int)).p, (tw F (n : Int)).b, (tw F (n : Int)).n⟩], by rw [ref_yes ha, h1, List.append_assoc], by rw [ref_yes (by rw [hn]; exact ha), h2, List.append_assoc, hn], fun x hm => by
          rcases List.mem_append.1 hm with hm | hm
          · exact h3 x hm
          · rw [List.mem_singleton.1 hm]; show (k : Int) ≤ (n : Int); omega⟩
      | false => exact ⟨t, by rw [ref_no ha, h1], by rw [ref_no (by rw [hn]; exact ha), h2], h3⟩
/-- A branch that is not alive is put in its place. -/
theorem ref_put {F : List Tw} (hF : F.length = 16) {k : Nat} (hk : k < 16) (hi : (tw F (k : Int)).a = false) (p b n : Int) :
    ∃ t, refL F = ref F k ++ t ∧ refL (F.set k ⟨true, p, b, n⟩) = ref F k ++ ⟨(k : Int), p, b, n⟩ :: t ∧ (∀ x ∈ ref F k, x.id < (k : Int)) ∧ ∀ x ∈ t, (k : Int) < x.id := by
  have T := fun j : Int => tw_set (F := F) (i := k) (by omega) ⟨true, p, b, n⟩ j
  obtain ⟨t, h1, h2, h3⟩ := ref_tail (F := F) (G := F.set k ⟨true, p, b, n⟩) (k + 1) 16 (by omega) (fun i a _ => by rw [T, Int.toNat_natCast, if_neg (by omega)])
  refine ⟨t, ?_, ?_, fun x hx => ref_lt hx, fun x hx => by have := h3 x hx; omega⟩
  · rw [ref_no hi] at h1; exact h1
  · have e : tw (F.set k ⟨true, p, b, n⟩) (k : Int) = ⟨true, p, b, n⟩ := by rw [T, Int.toNat_natCast, if_pos rfl]
    rw [ref_yes (k := k) (by rw [e]), ref_agree (F := F) (G := F.set k ⟨true, p, b, n⟩) k (fun i hi => by rw [T, Int.toNat_natCast, if_neg (by omega)]), e] at h2
    unfold refL
    rw [h2, List.append_assoc]
    rfl
/-- One that is alive is taken out. -/
theorem ref_out {F : List Tw} (hF : F.length = 16) {k : Nat} (hk : k < 16) (hi : (tw F (k : Int)).a = true) :
    ∃ t, refL F = ref F k ++ ⟨(k : Int), (tw F (k : Int)).p, (tw F (k : Int)).b, (tw F (k : Int)).n⟩ :: t ∧ refL (F.set k tz) = ref F k ++ t := by
  have T := fun j : Int => tw_set (F := F) (i := k) (by omega) tz j
  obtain ⟨t, h1, h2, h3⟩ := ref_tail (F := F) (G := F.set k tz) (k + 1) 16 (by omega) (fun i a _ => by rw [T, Int.toNat_natCast, if_neg (by omega)])
  refine ⟨t, ?_, ?_⟩
  · rw [ref_yes hi, List.append_assoc] at h1
    exact h1
  · rw [ref_no (k := k) (by rw [T, Int.toNat_natCast, if_pos rfl]; rfl), ref_agree (F := F) (G := F.set k tz) k (fun i hi => by rw [T, Int.toNat_natCast, if_neg (by omega)])] at h2
    exact h2
theorem ref_new : refL newF = [] := by
  unfold refL ref
  rw [List.filter_eq_nil_iff.2 (fun i _ => by rw [tw_new]; decide)]
  rfl
end Go.Proofs.Ytaolpniigjmccaa.Wd
