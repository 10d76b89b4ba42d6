/-
  A moment released: in a table that lies as its row says. No condition but that its numbers rise, its minutes are minutes, and it is short.
-/
import Derived.Test.YtonlbeonblpblaaAdd
namespace Go.Proofs.Ytonlbeonblpblaa.All
open Go.RowKit Go.Proofs.YtonlbeonblpblaaW.PrintWords Go.Proofs.YtonlbeonblpblaaW.PrintLast Go.Proofs.YtonlbeonblpblaaW.PrintMore Go.Proofs.Ytonlbeonblpblaa.Wd
set_option linter.unusedVariables false
set_option linter.unusedSimpArgs false
private theorem ym (motive : Option Value → Sort _) (h1 : (b : Bool) → motive (some (.bool b))) (h2 : (x : Option Value) → motive x) : Go.yielded.match_1 motive (some undef) h1 h2 = h2 (some undef) := rfl
attribute [local go_sem, local simp] ym
def zi : It := ⟨0, 0, false⟩
/-- The error's number of a release. -/
def relC (M : List It) (num : Int) : Int := if hit M num = false then 4 else if (M.getD (lb M num) zi).o = true then 7 else if lb M num + 1 = M.length then 12 else 0
def relAt (M : List It) (k : Nat) : List It := M.set k ⟨(M.getD k zi).n, (M.getD k zi).m, true⟩
def relM (M : List It) (num : Int) : List It := if relC M num = 0 then relAt M (lb M num) else M
/-- The error's number of a drop. -/
def dropC (M : List It) (num : Int) : Int := if hit M num = false then 4 else if (M.getD (lb M num) zi).o = false then 7 else 0
def dropM (M : List It) (num : Int) : List It := if dropC M num = 0 then M.eraseIdx (lb M num) else M
theorem getI (M : List It) {k : Nat} (h : k < M.length) : M.getD k zi = M[k] := by rw [List.getD_eq_getElem?_getD, List.getElem?_eq_getElem h]; rfl
theorem relAt_len (M : List It) (k : Nat) : (relAt M k).length = M.length := by simp [relAt]
theorem relAt_get (M : List It) (k : Nat) {i : Nat} (h : i < (relAt M k).length) (h2 : i < M.length) : (relAt M k)[i] = ⟨M[i].n, M[i].m, if k = i then true else M[i].o⟩ := by
  have h1 : (relAt M k)[i]? = some ⟨M[i].n, M[i].m, if k = i then true else M[i].o⟩ := by
    unfold relAt
    rw [List.getElem?_set]
    by_cases e : k = i
    · subst e
      rw [if_pos rfl, if_pos rfl, if_pos h2, getI M h2]
    · rw [if_neg e, if_neg e, List.getElem?_eq_getElem h2]
  rw [List.getElem?_eq_getElem h] at h1
  injection h1
theorem relAt_good {M : List It} (g : Good M) (k : Nat) : Good (relAt M k) := by
  refine ⟨fun i j hi hj h => ?_, fun x hx => ?_, by rw [relAt_len]; exact g.len⟩
  · have hi2 : i < M.length := by rwa [relAt_len] at hi
    have hj2 : j < M.length := by rwa [relAt_len] at hj
    rw [relAt_get M k hi hi2, relAt_get M k hj hj2]
    exact g.up i j hi2 hj2 h
  · obtain ⟨i, hi, rfl⟩ := List.mem_iff_getElem.1 hx
    have hi2 : i < M.length := by rwa [relAt_len] at hi
    rw [relAt_get M k hi hi2]
    exact g.min M[i] (List.getElem_mem hi2)
theorem relM_good {M : List It} (g : Good M) (num : Int) : Good (relM M num) := by
  unfold relM
  split
  · exact relAt_good g _
  · exact g
theorem itcs_rel (M : List It) (k : Nat) (hk : k < M.length) : itcs (relAt M k) = (itcs M).set (k * 3 + 2) (.bool true) := by
  refine List.ext_getElem? fun t => ?_
  by_cases ht : t < M.length * 3
  · have hi : t / 3 < M.length := by omega
    have hi2 : t / 3 < (relAt M k).length := by rw [relAt_len]; exact hi
    have e1 := itcs_get (relAt M k) (t / 3) (t % 3) hi2 (Nat.mod_lt _ (by omega))
    have e2 := itcs_get M (t / 3) (t % 3) hi (Nat.mod_lt _ (by omega))
    rw [show (t / 3) * 3 + t % 3 = t by omega] at e1 e2
    rw [e1, List.getElem?_set, itcs_len, relAt_get M k hi2 hi]
    by_cases h : k = t / 3
    · rw [if_pos h]
      obtain h3 | h3 | h3 : t % 3 = 0 ∨ t % 3 = 1 ∨ t % 3 = 2 := by omega
      · rw [h3] at e2 ⊢; rw [if_neg (by omega), e2]; rfl
      · rw [h3] at e2 ⊢; rw [if_neg (by omega), e2]; rfl
      · rw [h3, if_pos (by omega), if_pos (by omega)]; rfl
    · rw [if_neg h, if_neg (by omega), e2]
  · rw [List.getElem?_eq_none (by rw [itcs_len, relAt_len]; omega), List.getElem?_eq_none (by rw [List.length_set, itcs_len]; omega)]
theorem rel_end {M : List It} {base b c q : Nat} {w w3 : World} (h : TAt w base b (some ⟨q, 0, none⟩) c M) (hb : Below w.heap.size w w3) {k : Nat} (hk : k < M.length) :
    (∃ A c, TAt (w3.setCell { block := q, off := k * 3 + 2 } (.bool true)) base b A c (relAt M k)) ∧ TK base b w (w3.setCell { block := q, off := k * 3 + 2 } (.bool true)) := by
  have h3 := h.below hb
  have ho := h3.own
  rcases ho.2 with ⟨h0, _⟩ | ⟨g', cap, cur, hv, hbb, hh, hc, hm, hs, ht⟩
  · cases h0
  injection hv with e1 _ e3
  injection e1 with e1
  injection e1 with e1
  subst e1 e3
  have hne : q ≠ b := heap_ne hh h3.head (by intro e; injection e with _ e; exact absurd e (by decide))
  refine ⟨⟨some ⟨q, 0, none⟩, c, ?_, ?_⟩, ?_⟩
  · rw [relAt_len]
    exact (Below.heap_setCell _ _ _ _ (Ne.symm hne)).trans h3.head
  · rw [relAt_len]
    refine ⟨by rw [itcs_len, relAt_len], .inr ⟨q, c, cur.set! (k * 3 + 2) (.bool true), rfl, hbb, ?_, hc, hm, by simpa using hs, ?_⟩⟩
    · simp [World.setCell, Array.getElem?_modify, hh]
    · rw [itcs_rel M k hk, ← ht]
      simp [List.take_set]
  · refine (TK.of_below hb).trans ⟨rfl, rfl, rfl, by simp [World.setCell], fun i h1 _ _ => Below.heap_setCell _ _ _ _ (fun e => by subst e; omega), fun i o h1 _ h4 => ?_⟩
    refine (Below.heap_setCell _ _ _ _ (fun e => ?_)).trans h1
    subst e
    rw [hh] at h1
    injection h1 with h1
    exact h4 cur h1.symm
theorem rel_frozen {M : List It} {base b c q : Nat} {w w3 : World} (h : TAt w base b (some ⟨q, 0, none⟩) c M) (hb : Below w.heap.size w w3) (h0 : 0 < M.length) (j : Nat) : w3.frozen? { block := q, off := j } = false := by
  obtain ⟨q2, cur, e, _, hh, _⟩ := own_row (h.below hb).own h0
  injection e with e
  injection e with e
  subst e
  exact frozen_of_row w3 q j _ _ hh
def RelPost (M : List It) (num : Int) (base b : Nat) (w : World) (e : Ending) (w' : World) : Prop := e = .returned (.int .i64 (relC M num)) ∧ (∃ A c, TAt w' base b A c (relM M num)) ∧ TK base b w w'
theorem rel_same {M : List It} {num k : Int} {base b c : Nat} {A : Option Addr} {w w' : World} (h : TAt w base b A c M) (hc : relC M num = k) (hk : k ≠ 0) (hb : Below w.heap.size w w') : RelPost M num base b w (.returned (.int .i64 k)) w' :=
  ⟨by rw [hc], ⟨A, c, by unfold relM; rw [if_neg (by rw [hc]; exact hk)]; exact h.below hb⟩, TK.of_below hb⟩
set_option maxRecDepth 100000 in
set_option maxHeartbeats 2000000 in
theorem rel_calls {M : List It} (g : Good M) {A : Option Addr} {base b c : Nat} {w : World} (h : TAt w base b A c M) (num : Int) :
    Calls Try.prog 36 #[.pointer (some ⟨b, 0, none⟩), .int .u64 num] w (RelPost M num base b w) := by
  have FC := Lib.hid (find_calls g.up h g.len num)
  have HT := Lib.hid (fun (w2 : World) (hb : Below w.heap.size w w2) => And.intro (h.below hb).cell (h.below hb).row)
  have H := Lib.hid h
  have hll := g.len
  clear h
  cases hh : hit M num with
  | false =>
    have HC := Lib.hid (show relC M num = 4 by unfold relC; rw [if_pos hh])
    rw [hh] at FC
    clear hh
    generalize lb M num = k at *
    go_enter Try.func36, Try.ntmps36
    go_wp2_with (go_at_call 40; (with_reducible refine FC.out.mono ?_); rintro e w3 ⟨rfl, hb3⟩; replace hb3 := Lib.hid hb3)
    go_ret
    exact rel_same H.out HC.out (by decide) hb3.out
  | true =>
    obtain ⟨hlt, hn, hm⟩ := hit_at hh
    rw [hh] at FC
    have hC : relC M num = if (M.getD (lb M num) zi).o = true then 7 else if lb M num + 1 = M.length then 12 else 0 := by
      unfold relC
      rw [if_neg (by rw [hh]; decide)]
    have hM : relC M num = 0 → relM M num = relAt M (lb M num) := fun e => by unfold relM; rw [if_pos e]
    replace hM := Lib.hid hM
    clear hm hn hh
    obtain ⟨k, hk⟩ : ∃ k, lb M num = k := ⟨_, rfl⟩
    have HK := Lib.hid hk
    rw [hk] at FC
    rw [hk] at hC hlt hM
    clear hk
    rw [getI M hlt] at hC
    have hk0 : 0 < M.length := by omega
    obtain ⟨q, hA, hq, hcc⟩ := H.out.row hk0
    subst hA
    have HCC := Lib.hid hcc
    have e0 := Lib.hid (fun (w2 : World) (hb : Below w.heap.size w w2) => show w2.cell? { block := q, off := k * 3 + 2 } = some (.bool M[k].o) from (hb.cell (p := { block := q, off := k * 3 + 2 }) hq).trans (hcc k hlt).2.2)
    clear hcc HCC
    have HF := Lib.hid (fun (w2 : World) (hb : Below w.heap.size w w2) => rel_frozen H.out hb hk0 (k * 3 + 2))
    have hd : IntKind.i64.wrap ((M.length : Int) - 1) = (M.length : Int) - 1 := IntWalk.i64_in _ (by omega)
    cases ho : M[k].o with
    | true =>
      rw [ho] at hC
      rw [if_pos rfl] at hC
      replace hC := Lib.hid hC
      simp only [ho] at e0
      clear ho
      go_enter Try.func36, Try.ntmps36
      go_wp2_with (go_at_call 40; (with_reducible refine FC.out.mono ?_); rintro e w3 ⟨rfl, hb3⟩; obtain ⟨hc3, _⟩ := HT.out w3 hb3; have e1 := e0.out w3 hb3; replace hb3 := Lib.hid hb3)
      go_ret
      exact rel_same H.out hC.out (by decide) hb3.out
    | false =>
      rw [ho] at hC
      rw [if_neg (by decide)] at hC
      simp only [ho] at e0
      clear ho
      by_cases hl : k + 1 = M.length
      · rw [if_pos hl] at hC
        replace hC := Lib.hid hC
        have q1 : ((k : Int) == (M.length : Int) - 1) = true := beq_iff_eq.2 (by omega)
        go_enter Try.func36, Try.ntmps36
        go_wp2_with (go_at_call 40; (with_reducible refine FC.out.mono ?_); rintro e w3 ⟨rfl, hb3⟩; obtain ⟨hc3, _⟩ := HT.out w3 hb3; have e1 := e0.out w3 hb3; replace hb3 := Lib.hid hb3)
        go_ret
        exact rel_same H.out hC.out (by decide) hb3.out
      · rw [if_neg hl] at hC
        replace hC := Lib.hid hC
        have q1 : ((k : Int) == (M.length : Int) - 1) = false := beq_eq_false_iff_ne.2 (by omega)
        go_enter Try.func36, Try.ntmps36
        go_wp2_with (go_at_call 40; (with_reducible refine FC.out.mono ?_); rintro e w3 ⟨rfl, hb3⟩; obtain ⟨hc3, _⟩ := HT.out w3 hb3; have e1 := e0.out w3 hb3; have f1 := HF.out w3 hb3; have K := Lib.hid (rel_end H.out hb3 hlt); replace hb3 := Lib.hid hb3)
        go_ret
        exact ⟨by rw [hC.out]; rfl, by rw [hM.out hC.out]; exact K.out.1, K.out.2⟩
end Go.Proofs.Ytonlbeonblpblaa.All
