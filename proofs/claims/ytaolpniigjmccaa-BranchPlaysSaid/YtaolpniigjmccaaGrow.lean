/-
  Forests of branches in plain Lean: what is forked or dropped leaves a forest well grown; a line that does not go through a branch does not hang on it. No condition.
-/
import Derived.Test.YtaolpniigjmccaaWood
namespace Go.Proofs.Ytaolpniigjmccaa.Wd
open Go.RowKit Go.Proofs.YtaolpniigjmccaaW.PrintWords
set_option linter.unusedVariables false
set_option linter.unusedSimpArgs false

theorem tw_set {F : List Tw} {i : Nat} (h : i < F.length) (t : Tw) (j : Int) : tw (F.set i t) j = if j.toNat = i then t else tw F j := by
  unfold tw
  rw [List.getD_eq_getElem?_getD, List.getElem?_set]
  by_cases hj : j.toNat = i
  · rw [if_pos hj.symm, if_pos h, if_pos hj]; rfl
  · rw [if_neg (Ne.symm hj), if_neg hj, List.getD_eq_getElem?_getD]
theorem tw_new (j : Int) : tw newF j = tz := by
  unfold tw newF
  rw [List.getD_eq_getElem?_getD, List.getElem?_replicate]
  split <;> rfl
theorem ok_new : Ok newF := by
  refine ⟨rfl, tw_new 0, fun id _ => tw_new id, fun id h => ?_, fun id => by rw [tw_new]; decide⟩
  unfold isSon at h
  rw [Bool.and_eq_true] at h
  have hz : id ≠ 0 := by simpa using h.2
  obtain ⟨h0, h1⟩ := alive_range h.1
  rw [alive_in h0 h1 hz, tw_new] at h
  exact absurd h.1 (by decide)
theorem alive_nat {F : List Tw} {id : Int} (h : aliveF F id = true) : ∃ k : Nat, id = (k : Int) ∧ k < 16 := by
  obtain ⟨h0, h1⟩ := alive_range h
  exact ⟨id.toNat, by omega, by omega⟩
theorem alive_set {F : List Tw} (hF : F.length = 16) {x : Int} (h0 : 1 ≤ x) (h1 : x < 16) (t : Tw) (j : Int) : aliveF (F.set x.toNat t) j = if j = x then t.a else aliveF F j := by
  by_cases hj : j = x
  · subst hj
    rw [if_pos rfl, alive_in (by omega) h1 (by omega), tw_set (by omega), if_pos rfl]
  · rw [if_neg hj]
    unfold aliveF
    cases hr : inR j with
    | false => rfl
    | true =>
      have hr' : 0 ≤ j ∧ j < 16 := by unfold inR at hr; simpa using hr
      rw [tw_set (by omega), if_neg (by omega)]
structure Forked (F : List Tw) (x p b n : Int) : Prop where
  lo : 1 ≤ x
  hi : x < 16
  idle : (tw F x).a = false
  par : aliveF F p = true
  past : (tw F p).n ≤ b
  num : b < n
theorem forked_of {F : List Tw} {x p b n : Int} (h : forkC F x p b n = 0) : Forked F x p b n := by
  unfold forkC at h
  by_cases h1 : x < 1 ∨ 16 ≤ x
  · rw [if_pos h1] at h; cases h
  rw [if_neg h1] at h
  by_cases h2 : (tw F x).a = true
  · rw [if_pos h2] at h; cases h
  rw [if_neg h2] at h
  by_cases h3 : aliveF F p = false
  · rw [if_pos h3] at h; cases h
  rw [if_neg h3] at h
  by_cases h4 : b < (tw F p).n ∨ n ≤ b
  · rw [if_pos h4] at h; cases h
  exact ⟨by omega, by omega, by simpa using h2, by simpa using h3, by omega, by omega⟩
theorem forkC_yes {F : List Tw} {x p b n : Int} (h : Forked F x p b n) : forkC F x p b n = 0 := by
  unfold forkC
  rw [if_neg (by have := h.lo; have := h.hi; omega), if_neg (by rw [h.idle]; decide), if_neg (by rw [h.par]; decide), if_neg (by have := h.past; have := h.num; omega)]
structure Dropped (F : List Tw) (x : Int) : Prop where
  lo : 1 ≤ x
  hi : x < 16
  alive : aliveF F x = true
  kids : kidsF F x = 0
theorem dropped_of {F : List Tw} {x : Int} (h : dropC F x = 0) : Dropped F x := by
  unfold dropC at h
  by_cases h1 : x = 0
  · rw [if_pos h1] at h; cases h
  rw [if_neg h1] at h
  by_cases h2 : aliveF F x = false
  · rw [if_pos h2] at h; cases h
  rw [if_neg h2] at h
  by_cases h3 : 0 < kidsF F x
  · rw [if_pos h3] at h; cases h
  have h2' : aliveF F x = true := by simpa using h2
  obtain ⟨r0, r1⟩ := alive_range h2'
  exact ⟨by omega, r1, h2', by omega⟩
/-- Nobody alive has it for a parent. -/
def Childless (F : List Tw) (x : Int) : Prop := ∀ j, isSon F j = true → (tw F j).p ≠ x
theorem son_parts {F : List Tw} {j : Int} (h : isSon F j = true) : aliveF F j = true ∧ j ≠ 0 ∧ 0 ≤ j ∧ j < 16 ∧ (tw F j).a = true := by
  unfold isSon at h
  rw [Bool.and_eq_true] at h
  have hz : j ≠ 0 := by simpa using h.2
  obtain ⟨h0, h1⟩ := alive_range h.1
  exact ⟨h.1, hz, h0, h1, by rw [← alive_in h0 h1 hz]; exact h.1⟩
theorem childless_of {F : List Tw} (hF : F.length = 16) {x : Int} (ha : aliveF F x = true) (hk : kidsF F x = 0) : Childless F x := by
  intro j hj hp
  obtain ⟨h1, h2, h3, h4, h5⟩ := son_parts hj
  unfold kidsF at hk
  rw [if_pos ha, List.countP_eq_zero] at hk
  exact hk (tw F j) (tw_mem h3 (by omega)) (by simp [h5, hp])
theorem childless_idle {F : List Tw} (ok : Ok F) {x : Int} (hi : aliveF F x = false) : Childless F x := fun j hj hp => by
  have := (ok.son j hj).1
  rw [hp, hi] at this
  cases this
theorem idle_alive {F : List Tw} {x : Int} (h0 : 1 ≤ x) (h1 : x < 16) (h : (tw F x).a = false) : aliveF F x = false := by rw [alive_in (by omega) h1 (by omega)]; exact h
theorem ok_set {F : List Tw} (ok : Ok F) {x : Int} (h0 : 1 ≤ x) (h1 : x < 16) (hc : Childless F x) (t : Tw) (ht : (t.a = false ∧ t = tz) ∨ (t.a = true ∧ t.p ≠ x ∧ aliveF F t.p = true ∧ (tw F t.p).n ≤ t.b ∧ t.b < t.n ∧ t.n < 18446744073709551616)) : Ok (F.set x.toNat t) := by
  have hL : x.toNat < F.length := by rw [ok.len]; omega
  have T := tw_set hL t
  refine ⟨by rw [List.length_set]; exact ok.len, ?_, fun id h => ?_, fun id h => ?_, fun id => ?_⟩
  · rw [T, if_neg (by omega)]; exact ok.zero
  · rw [T] at h ⊢
    split
    · rename_i he
      rw [if_pos he] at h
      rcases ht with ht | ht
      · exact ht.2
      · rw [ht.1] at h; cases h
    · rename_i he
      rw [if_neg he] at h
      exact ok.idle id h
  · obtain ⟨a1, a2, a3, a4, a5⟩ := son_parts h
    rw [alive_set ok.len h0 h1]
    by_cases he : id = x
    · subst he
      have e : tw (F.set id.toNat t) id = t := by rw [T, if_pos rfl]
      rw [e] at a5 ⊢
      rcases ht with ht | ⟨_, hp, ha, h5, h6, _⟩
      · rw [ht.1] at a5; cases a5
      · obtain ⟨r0, r1⟩ := alive_range ha
        rw [if_neg hp, T, if_neg (by omega)]
        exact ⟨ha, h5, h6⟩
    · have e : tw (F.set x.toNat t) id = tw F id := by rw [T, if_neg (by omega)]
      have hs : isSon F id = true := by
        have : aliveF (F.set x.toNat t) id = aliveF F id := by rw [alive_set ok.len h0 h1, if_neg he]
        unfold isSon at h ⊢
        rw [← this]
        exact h
      have hp := hc id hs
      obtain ⟨k1, k2, k3⟩ := ok.son id hs
      obtain ⟨r0, r1⟩ := alive_range k1
      rw [e, if_neg hp, T, if_neg (by omega)]
      exact ⟨k1, k2, k3⟩
  · rw [T]
    split
    · rcases ht with ⟨_, rfl⟩ | ⟨_, _, ha, h5, h6, h7⟩
      · decide
      · have := ok.pos t.p
        omega
    · exact ok.pos id
theorem ok_fork {F : List Tw} (ok : Ok F) {x p b n : Int} (hn : n < 18446744073709551616) : Ok (forkF F x p b n) := by
  unfold forkF
  split
  · rename_i h
    have f := forked_of h
    have hi := idle_alive f.lo f.hi f.idle
    refine ok_set ok f.lo f.hi (childless_idle ok hi) _ (.inr ⟨rfl, fun e => ?_, f.par, f.past, f.num, hn⟩)
    have := f.par
    rw [show p = x from e, hi] at this
    cases this
  · exact ok
theorem ok_drop {F : List Tw} (ok : Ok F) (x : Int) : Ok (dropF F x) := by
  unfold dropF
  split
  · rename_i h
    have f := dropped_of h
    exact ok_set ok f.lo f.hi (childless_of ok.len f.alive f.kids) _ (.inl ⟨rfl, rfl⟩)
  · exact ok
/-! ### what is done to a forest -/
structure Ac where
  d : Bool
  id : Int
  p : Int
  b : Int
  n : Int
def actF (F : List Tw) (a : Ac) : List Tw := if a.d = true then dropF F a.id else forkF F a.id a.p a.b a.n
def playF (F : List Tw) (l : List Ac) : List Tw := l.foldl actF F
theorem ok_act {F : List Tw} (ok : Ok F) {a : Ac} (hn : a.n < 18446744073709551616) : Ok (actF F a) := by
  unfold actF
  split
  · exact ok_drop ok _
  · exact ok_fork ok hn
theorem ok_play : ∀ {l : List Ac} {F : List Tw}, Ok F → (∀ a ∈ l, a.n < 18446744073709551616) → Ok (playF F l)
  | [], F, ok, _ => ok
  | a :: l, F, ok, h => ok_play (l := l) (ok_act ok (h a (.head _))) (fun x hx => h x (.tail _ hx))
theorem play_take {l : List Ac} {k : Nat} (h : k < l.length) (F : List Tw) : playF F (l.take (k + 1)) = actF (playF F (l.take k)) l[k] := by
  unfold playF
  rw [List.take_succ_eq_append_getElem h, List.foldl_append]
  rfl
theorem ok_take {l : List Ac} (h : ∀ a ∈ l, a.n < 18446744073709551616) (k : Nat) : Ok (playF newF (l.take k)) := ok_play ok_new fun a ha => h a (List.mem_of_mem_take ha)
/-! ### a line does not hang on a branch that is not on it -/
theorem lineR_apart {F F' : List Tw} (ok : Ok F) {x : Int} (hc : Childless F x) (hs : ∀ j, 0 ≤ j → j ≠ x → tw F' j = tw F j) : ∀ (k : Nat) (id : Int), aliveF F id = true → id ≠ x → lineR F' k id = lineR F k id
  | 0, _, _, _ => rfl
  | k + 1, id, ha, hx => by
    unfold lineR
    by_cases hz : id = 0
    · rw [if_pos hz, if_pos hz]
    · obtain ⟨r0, r1⟩ := alive_range ha
      have hson := isSon_of ha hz
      have h1 := ok.son id hson
      have hp := hc id hson
      obtain ⟨q0, q1⟩ := alive_range h1.1
      rw [if_neg hz, if_neg hz, hs id r0 hx, hs _ q0 hp, lineR_apart ok hc hs k _ h1.1 hp]
/-- What is done with x. -/
structure Same (F F' : List Tw) (x : Int) : Prop where
  less : Childless F x
  tw : ∀ j, 0 ≤ j → j ≠ x → tw F' j = tw F j
  alive : ∀ j, j ≠ x → aliveF F' j = aliveF F j
theorem same_act {F : List Tw} (ok : Ok F) (a : Ac) : actF F a = F ∨ Same F (actF F a) a.id := by
  unfold actF
  split
  · unfold dropF
    split
    · rename_i h
      have f := dropped_of h
      have hlo := f.lo
      have hhi := f.hi
      exact .inr ⟨childless_of ok.len f.alive f.kids, fun j h0 hj => by rw [tw_set (by rw [ok.len]; omega), if_neg (by omega)], fun j hj => by rw [alive_set ok.len f.lo f.hi, if_neg hj]⟩
    · exact .inl rfl
  · unfold forkF
    split
    · rename_i h
      have f := forked_of h
      have hlo := f.lo
      have hhi := f.hi
      exact .inr ⟨childless_idle ok (idle_alive f.lo f.hi f.idle), fun j h0 hj => by rw [tw_set (by rw [ok.len]; omega), if_neg (by omega)], fun j hj => by rw [alive_set ok.len f.lo f.hi, if_neg hj]⟩
    · exact .inl rfl
theorem same_line {F F' : List Tw} (ok : Ok F) {x : Int} (h : Same F F' x) {id : Int} (hx : id ≠ x) (ha : aliveF F id = true) (m : Int) : lineF F' id m = lineF F id m := by
  obtain ⟨r0, r1⟩ := alive_range ha
  unfold lineF tailF
  rw [h.tw id r0 hx, lineR_apart ok h.less h.tw _ id ha hx]
/-- Whether there is a line. -/
def lineOk (F : List Tw) (id m : Int) : Bool := aliveF F id && decide ((tw F id).n ≤ m)
theorem act_lineOk {F : List Tw} (ok : Ok F) (a : Ac) {id : Int} (hx : id ≠ a.id) (m : Int) : lineOk (actF F a) id m = lineOk F id m := by
  rcases same_act ok a with h | h
  · rw [h]
  · unfold lineOk
    rw [h.alive id hx]
    cases ha : aliveF F id with
    | false => rfl
    | true =>
      rw [h.tw id (alive_range ha).1 hx]
theorem act_line {F : List Tw} (ok : Ok F) (a : Ac) {id : Int} (hx : id ≠ a.id) (m : Int) (h : lineOk F id m = true) : lineF (actF F a) id m = lineF F id m := by
  unfold lineOk at h
  rw [Bool.and_eq_true] at h
  rcases same_act ok a with k | k
  · rw [k]
  · exact same_line ok k hx h.1 m
/-- Whoever is on a line behind its head has kids. -/
theorem tail_kids {F : List Tw} (ok : Ok F) : ∀ (k : Nat) (id : Int), aliveF F id = true → ∀ s ∈ lineR F k id, ∃ j, isSon F j = true ∧ (tw F j).p = s.1
  | 0, _, _, s, hs => by cases hs
  | k + 1, id, ha, s, hs => by
    unfold lineR at hs
    by_cases hz : id = 0
    · rw [if_pos hz] at hs; cases hs
    · rw [if_neg hz] at hs
      have hson := isSon_of ha hz
      rcases List.mem_cons.1 hs with rfl | hs
      · exact ⟨id, hson, rfl⟩
      · exact tail_kids ok k _ (ok.son id hson).1 s hs
theorem through_drop {F : List Tw} (ok : Ok F) {id m x : Int} (ha : aliveF F id = true) (hx : id ≠ x) (hs : ∃ s ∈ lineF F id m, s.1 = x) : dropC F x ≠ 0 := by
  intro h
  have f := dropped_of h
  obtain ⟨s, hs, rfl⟩ := hs
  rcases List.mem_cons.1 hs with rfl | hs
  · exact hx rfl
  · obtain ⟨j, h1, h2⟩ := tail_kids ok _ id ha s hs
    exact childless_of ok.len f.alive f.kids j h1 h2
end Go.Proofs.Ytaolpniigjmccaa.Wd
