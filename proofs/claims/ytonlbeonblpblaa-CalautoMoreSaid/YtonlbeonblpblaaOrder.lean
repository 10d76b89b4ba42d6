/-
  The law CalautoOrder tells true of every input. No condition.
-/
import Derived.Test.YtonlbeonblpblaaRowR
namespace Go.Proofs.Ytonlbeonblpblaa.All
open Go.RowKit Go.Proofs.YtonlbeonblpblaaW.PrintWords Go.Proofs.YtonlbeonblpblaaW.PrintLast Go.Proofs.YtonlbeonblpblaaW.PrintMore Go.Proofs.Ytonlbeonblpblaa.Wd
set_option linter.unusedVariables false
set_option linter.unusedSimpArgs false
private theorem ym (motive : Option Value → Sort _) (h1 : (b : Bool) → motive (some (.bool b))) (h2 : (x : Option Value) → motive x) : Go.yielded.match_1 motive (some undef) h1 h2 = h2 (some undef) := rfl
attribute [local go_sem, local simp] ym
set_option maxRecDepth 100000 in
set_option maxHeartbeats 4000000 in
theorem order_skip (A0 PB P : Option Addr) (c0 cb cs nb n : Nat) (R : List Ru) (num : Int) (w : World) (hR : RuRow w w.heap.size A0 R) (hl : R.length ≤ maxLen) (h : 30 < n ∨ R.length = 0 ∨ 15 < R.length ∨ 40 < nb ∨ rightL R = false) :
    Calls Try.prog 4 #[.slice A0 R.length c0, .slice PB nb cb, .slice P n cs, .int .u64 num] w fun e w' => e = .returned (.bool true) ∧ Below w.heap.size w w' := by
  replace hR := Lib.hid hR
  by_cases h0 : 30 < n
  · have q0 : decide ((30 : Int) < (n : Int)) = true := decide_eq_true (by omega)
    clear h
    go_enter Try.func4, Try.ntmps4
    go_wp2_with (go_at_call 11; refine (awake_calls _).mono ?_; rintro e w1 ⟨rfl, hb1⟩; replace hb1 := Lib.hid hb1)
    go_ret
    exact ⟨rfl, hb1.out⟩
  · have q0 : decide ((30 : Int) < (n : Int)) = false := decide_eq_false (by omega)
    replace h := h.resolve_left h0
    by_cases h1 : R.length = 0
    · have q1 : ((R.length : Int) == 0) = true := beq_iff_eq.2 (by omega)
      clear h
      go_enter Try.func4, Try.ntmps4
      go_wp2_with (go_at_call 11; refine (awake_calls _).mono ?_; rintro e w1 ⟨rfl, hb1⟩; replace hb1 := Lib.hid hb1)
      go_ret
      exact ⟨rfl, hb1.out⟩
    · have q1 : ((R.length : Int) == 0) = false := beq_eq_false_iff_ne.2 (by omega)
      replace h := h.resolve_left h1
      by_cases h2 : 15 < R.length
      · have q2 : decide ((15 : Int) < (R.length : Int)) = true := decide_eq_true (by omega)
        clear h
        go_enter Try.func4, Try.ntmps4
        go_wp2_with (go_at_call 11; refine (awake_calls _).mono ?_; rintro e w1 ⟨rfl, hb1⟩; replace hb1 := Lib.hid hb1)
        go_ret
        exact ⟨rfl, hb1.out⟩
      · have q2 : decide ((15 : Int) < (R.length : Int)) = false := decide_eq_false (by omega)
        replace h := h.resolve_left h2
        by_cases h3 : 40 < nb
        · have q3 : decide ((40 : Int) < (nb : Int)) = true := decide_eq_true (by omega)
          clear h
          go_enter Try.func4, Try.ntmps4
          go_wp2_with (go_at_call 11; refine (awake_calls _).mono ?_; rintro e w1 ⟨rfl, hb1⟩; replace hb1 := Lib.hid hb1)
          go_ret
          exact ⟨rfl, hb1.out⟩
        · have q3 : decide ((40 : Int) < (nb : Int)) = false := decide_eq_false (by omega)
          replace h := h.resolve_left h3
          have hv := Lib.hid (rightV_no h)
          clear h
          go_enter Try.func4, Try.ntmps4
          go_wp2_with (first | (go_at_call 11; refine (awake_calls _).mono ?_; rintro e w1 ⟨rfl, hb1⟩; replace hb1 := Lib.hid hb1) | (go_at_call 12; refine (right16_calls (hR.out.up hb1.out) hl).mono ?_; rintro e w2 ⟨rfl, hb2⟩; rw [hv.out]; replace hb2 := Lib.hid (hb1.out.trans (hb2.mono hb1.out.size))))
          go_ret
          exact ⟨rfl, hb2.out⟩
/-- What the swaps keep. -/
structure OI (w wr : World) (R : List Ru) (A9 : Option Addr) (c9 : Nat) (m : List Ru) : Prop where
  own : wr.ownsRow w.heap.size 24 3 (.slice A9 R.length c9) R.length (rucs m)
  bel : Below w.heap.size w wr
  mem : ∀ r, r ∈ m ↔ r ∈ R
  len : m.length = R.length
theorem OI.below {w wr w2 : World} {R m : List Ru} {A9 : Option Addr} {c9 : Nat} (h : OI w wr R A9 c9 m) (hb : Below wr.heap.size wr w2) : OI w w2 R A9 c9 m := ⟨own_below h.own hb, h.bel.trans (hb.mono h.bel.size), h.mem, h.len⟩
/-- The row's cells at a place. -/
def RC (w : World) (g x : Nat) (r : Ru) : Prop := w.cell? { block := g, off := x * 3 } = some (.int .i64 r.k) ∧ w.cell? { block := g, off := x * 3 + 1 } = some (.int .i64 r.l) ∧ w.cell? { block := g, off := x * 3 + 2 } = some (.int .i64 r.f)
theorem OI.at_ {w wr : World} {R m : List Ru} {A9 : Option Addr} {c9 : Nat} (h : OI w wr R A9 c9 m) (h0 : 0 < R.length) : ∃ g, A9 = some ⟨g, 0, none⟩ ∧ w.heap.size ≤ g ∧ g < wr.heap.size ∧ R.length ≤ c9 ∧ ∀ x (hx : x < m.length), RC wr g x m[x] := by
  obtain ⟨g, cur, rfl, hg, hh, hc, _, hcell⟩ := own_row h.own h0
  exact ⟨g, rfl, hg, lt_heap hh, hc, fun x hx => ⟨hcell _ _ ((rucs_get m x 0 hx (by omega)).trans rfl), hcell _ _ ((rucs_get m x 1 hx (by omega)).trans rfl), hcell _ _ ((rucs_get m x 2 hx (by omega)).trans rfl)⟩⟩
/-- Both rules in boxes of their own. -/
structure O2 (w wr : World) (R : List Ru) (A9 : Option Addr) (c9 : Nat) (m : List Ru) (p q : Nat) (a b : Ru) : Prop where
  oi : OI w wr R A9 c9 m
  p : Bo wr p a
  q : Bo wr q b
theorem o2_a {w W1 : World} {R m : List Ru} {A9 : Option Addr} {c9 : Nat} (h : OI w W1 R A9 c9 m) (a b : Ru) : O2 w (((W1.alloc (.cells #[.int .i64 a.k, .int .i64 a.l, .int .i64 a.f] 24)).alloc (.cells #[.int .i64 b.k, .int .i64 b.l, .int .i64 b.f] 24)).drew) R A9 c9 m W1.heap.size (W1.heap.size + 1) a b := by
  have hb := below_drew (below_alloc (below_alloc (Below.refl _ W1) (.cells #[.int .i64 a.k, .int .i64 a.l, .int .i64 a.f] 24)) (.cells #[.int .i64 b.k, .int .i64 b.l, .int .i64 b.f] 24))
  refine ⟨h.below hb, ?_, ?_⟩
  · have := heap_alloc_new W1 (.cells #[.int .i64 a.k, .int .i64 a.l, .int .i64 a.f] 24)
    exact blk_alloc this _
  · have := heap_alloc_new (W1.alloc (.cells #[.int .i64 a.k, .int .i64 a.l, .int .i64 a.f] 24)) (.cells #[.int .i64 b.k, .int .i64 b.l, .int .i64 b.f] 24)
    rwa [World.size_alloc] at this
theorem O2.frz {w W : World} {R m : List Ru} {g c9 p q : Nat} {a b : Ru} (h : O2 w W R (some ⟨g, 0, none⟩) c9 m p q a b) : ∀ j, W.frozen? { block := g, off := j } = false := by
  rcases h.oi.own.2 with ⟨h1, _⟩ | ⟨g', cap, cur, hv, hb, hh, hc, hm, hs, ht⟩
  · cases h1
  · injection hv with e1 _ _
    injection e1 with e1
    injection e1 with e1
    subst e1
    exact fun j => frozen_of_row W g j _ _ hh
/-- A world behind one rule put in its place. -/
def put3 (W : World) (g x : Nat) (b : Ru) : World := ((W.setCell { block := g, off := x * 3 } (.int .i64 b.k)).setCell { block := g, off := x * 3 + 1 } (.int .i64 b.l)).setCell { block := g, off := x * 3 + 2 } (.int .i64 b.f)
theorem OI.put {w W : World} {R m : List Ru} {g c9 : Nat} (h : OI w W R (some ⟨g, 0, none⟩) c9 m) {x : Nat} (hx : x < R.length) (b : Ru) : (put3 W g x b).ownsRow w.heap.size 24 3 (.slice (some ⟨g, 0, none⟩) R.length c9) R.length (rucs (m.set x b)) ∧ Chg (· = g) W (put3 W g x b) :=
  ⟨own_put3 h.own h.len hx b, Chg.setCell (S := (· = g)) (Chg.setCell (S := (· = g)) (Chg.setCell (S := (· = g)) (Chg.refl _ _) (p := { block := g, off := x * 3 }) rfl _) (p := { block := g, off := x * 3 + 1 }) rfl _) (p := { block := g, off := x * 3 + 2 }) rfl _⟩
theorem Bo.put {W : World} {p g x : Nat} {r b : Ru} (h : Bo W p r) (hne : g ≠ p) : Bo (put3 W g x b) p r :=
  (Below.heap_setCell _ _ _ _ (fun e => hne e.symm)).trans ((Below.heap_setCell _ _ _ _ (fun e => hne e.symm)).trans ((Below.heap_setCell _ _ _ _ (fun e => hne e.symm)).trans h))
theorem bx2 {W : World} {p q : Nat} {a b : Ru} (h1 : Bo W p a) (h2 : Bo W q b) : (W.drew.cell? { block := p, off := 0 } = some (.int .i64 a.k) ∧ W.drew.cell? { block := p, off := 1 } = some (.int .i64 a.l) ∧ W.drew.cell? { block := p, off := 2 } = some (.int .i64 a.f)) ∧ W.drew.cell? { block := q, off := 0 } = some (.int .i64 b.k) ∧ W.drew.cell? { block := q, off := 1 } = some (.int .i64 b.l) ∧ W.drew.cell? { block := q, off := 2 } = some (.int .i64 b.f) := ⟨h1.cells, h2.cells⟩
theorem row_facts {W : World} {B : Nat} {n g c9 : Nat} {m : List Ru} (h : W.ownsRow B 24 3 (.slice (some ⟨g, 0, none⟩) n c9) n (rucs m)) (hn : m.length = n) {z : Nat} (hz : z < n) (hzm : z < m.length) : RC W g z m[z] ∧ (∀ j, W.frozen? { block := g, off := j } = false) ∧ B ≤ g := by
  obtain ⟨q, cur, e, hq, hh, _, _, hc⟩ := own_row h (by omega)
  injection e with e
  injection e with e
  subst e
  exact ⟨⟨hc _ _ ((rucs_get m z 0 hzm (by omega)).trans rfl), hc _ _ ((rucs_get m z 1 hzm (by omega)).trans rfl), hc _ _ ((rucs_get m z 2 hzm (by omega)).trans rfl)⟩, fun j => frozen_of_row W g j _ _ hh, hq⟩
/-- Both stores: the swap. -/
theorem OI.swap {w W : World} {R m : List Ru} {g c9 : Nat} (h : OI w W R (some ⟨g, 0, none⟩) c9 m) {x z : Nat} (hx : x < R.length) (hz : z < R.length) (a b : Ru) (ha : a = m.getD x zr) (hb : b = m.getD z zr) : OI w (put3 (put3 W g x b) g z a) R (some ⟨g, 0, none⟩) c9 (swp m x z) := by
  obtain ⟨h1, h2⟩ := h.put hx b
  have hl := h.len
  have h3 := own_put3 h1 (by rw [List.length_set]; exact hl) hz a
  have hg := (row_facts h.own hl hx (by omega)).2.2
  have h4 : Chg (· = g) W (put3 (put3 W g x b) g z a) := Chg.setCell (S := (· = g)) (Chg.setCell (S := (· = g)) (Chg.setCell (S := (· = g)) h2 (p := { block := g, off := z * 3 }) rfl _) (p := { block := g, off := z * 3 + 1 }) rfl _) (p := { block := g, off := z * 3 + 2 }) rfl _
  refine ⟨?_, h4.below h.bel h.bel.size (fun k e => e ▸ hg), fun r => ?_, by rw [swp_len]; exact hl⟩
  · unfold swp
    rw [← ha, ← hb]
    exact h3
  · rw [swp_mem (by omega) (by omega)]
    exact h.mem r
theorem o2_swap {w W : World} {R m : List Ru} {A9 : Option Addr} {c9 p q : Nat} {a b : Ru} (h : O2 w W R A9 c9 m p q a b) : O2 w W R A9 c9 m q p b a := ⟨h.oi, h.q, h.p⟩
theorem oi_more {w wr w6 : World} {R m : List Ru} {A9 : Option Addr} {c9 : Nat} {r0 : Ru} {v : Value} {o : Obj} (h : OI w wr R A9 c9 m) (hr : r0 ∈ R) (ho : w6.ownsRow w.heap.size 24 3 v (R.length + 1) (rucs m ++ ruc r0)) (hg : (wr.alloc o).grownBy w6 (Value.slice A9 R.length c9).ownBlock) :
    ∃ m2 A6 c6, v = .slice A6 (R.length + 1) c6 ∧ m2.length = R.length + 1 ∧ w6.ownsRow w.heap.size 24 3 (.slice A6 (R.length + 1) c6) (R.length + 1) (rucs m2) ∧ Below w.heap.size w w6 ∧ (∀ r, r ∈ m2 ↔ r ∈ R) := by
  obtain ⟨A, c, rfl, _⟩ := own_slice_cap ho
  have h1 : Below w.heap.size w (wr.alloc o) := below_alloc h.bel _
  have h2 := h.bel.size
  refine ⟨m ++ [r0], A, c, rfl, by rw [List.length_append, h.len]; rfl, ?_, h1.grown hg (by simp; omega) (own_base h.own), fun r => ?_⟩
  · rw [rucs_app]
    exact ho
  · rw [List.mem_append, h.mem r]
    constructor
    · rintro (h | h)
      · exact h
      · obtain rfl : r = r0 := by simpa using h
        exact hr
    · exact fun h => .inl h
theorem add_zero_ (a : Addr) : a.add 0 = a := by unfold Addr.add; rw [if_pos rfl]
theorem own_emptyR (w : World) (base : Nat) (e : TypeId) (hb : base ≤ w.heap.size) : (w.alloc (.cells #[] e)).ownsRow base e 3 (.slice (some ⟨w.heap.size, 0, none⟩) 0 0) 0 [] :=
  ⟨by simp, .inr ⟨w.heap.size, 0, #[], rfl, hb, heap_alloc_new w _, Nat.le_refl _, Nat.zero_le _, by simp, by simp⟩⟩
theorem oi_start {w w2 w5 : World} {R : List Ru} {v : Value} (hb : Below w.heap.size w w2) (ho : w5.ownsRow w.heap.size 24 3 v R.length (rucs R)) (hg : (w2.alloc (.cells #[] 24)).grownBy w5 (Value.slice (some ⟨w2.heap.size, 0, none⟩) 0 0).ownBlock) : ∃ A9 c9, v = .slice A9 R.length c9 ∧ OI w w5 R A9 c9 R := by
  obtain ⟨A, c, rfl, _⟩ := own_slice_cap ho
  have h1 : Below w.heap.size w (w2.alloc (.cells #[] 24)) := below_alloc hb _
  have h2 := hb.size
  exact ⟨A, c, rfl, ho, h1.grown hg (by simp; omega) (fun k e => by simp [Value.ownBlock] at e; omega), fun _ => Iff.rfl, rfl⟩
set_option maxRecDepth 100000 in
set_option maxHeartbeats 4000000 in
theorem order_in (A0 PB P : Option Addr) (c0 cb cs : Nat) (R : List Ru) (BY L : List Int) (num : Int) (w : World) (hR : RuRow w w.heap.size A0 R) (hr : rightL R = true) (hY : Reads w w.heap.size 1 PB BY.length (BY.map (Value.int .u8))) (hy : Steps BY) (hS : Reads w w.heap.size 1 P L.length (L.map (Value.int .u8))) (hs : Steps L) (h30 : L.length ≤ 30) (h0 : 0 < R.length) (h15 : R.length ≤ 15) (h40 : BY.length ≤ 40) :
    Calls Try.prog 4 #[.slice A0 R.length c0, .slice PB BY.length cb, .slice P L.length cs, .int .u64 num] w fun e w' => e = .returned (.bool true) ∧ Below w.heap.size w w' := by
  have rt : Rt R := ⟨(rightL_parts hr).1, (rightL_parts hr).2⟩
  have hl : R.length ≤ maxLen := Nat.le_trans rt.len (by decide)
  have hv := Lib.hid (rightV_yes hr)
  have q0 : decide ((30 : Int) < (L.length : Int)) = false := decide_eq_false (by omega)
  have q1 : ((R.length : Int) == 0) = false := beq_eq_false_iff_ne.2 (by omega)
  have q2 : decide ((15 : Int) < (R.length : Int)) = false := decide_eq_false (by omega)
  have q3 : decide ((40 : Int) < (BY.length : Int)) = false := decide_eq_false (by omega)
  have g := mkM_good hs (Nat.le_refl _) h30
  have RT := Lib.hid rt
  have G := Lib.hid g
  replace hR := Lib.hid hR
  replace hS := Lib.hid hS
  replace hs := Lib.hid hs
  replace hY := Lib.hid hY
  replace hy := Lib.hid hy
  clear hr rt g
  obtain ⟨ir, hir, zr0, zr1, zr2⟩ := info_parts rule_info
  replace hir := Lib.hid hir
  have hx0 := Lib.hid (show (0 + R.length ≤ maxLen ∧ (0 + R.length) * 24 ≤ 140737488355328) ∧ (R.length + 1 ≤ maxLen ∧ (R.length + 1) * 24 ≤ 140737488355328) by unfold maxLen; omega)
  go_enter Try.func4, Try.ntmps4
  go_upto_region 5 with (first
      | (go_at_call 11; refine (awake_calls _).mono ?_; rintro e w1 ⟨rfl, hb1⟩; replace hb1 := Lib.hid hb1)
      | (go_at_call 12; refine (right16_calls (hR.out.up hb1.out) hl).mono ?_; rintro e w2 ⟨rfl, hb2⟩; rw [hv.out]; replace hb2 := Lib.hid (hb1.out.trans (hb2.mono hb1.out.size))))
  have RR := Lib.hid (ru_reads (hR.out.up hb2.out))
  go_upto_region 6 with (at_builtin
                         refine wpList_append_any _ rfl _ _ 22 rfl w.heap.size 24 ir _ 3 24 Try.underlying22 hir.out zr0 zr1 zr2 rfl (by decide) (.slice (some ⟨w2.heap.size, 0, none⟩) 0 0) 0 [] rfl (own_emptyR w2 w.heap.size 24 hb2.out.size) _ _ R.length c0 _ rfl (RR.out.alloc (Nat.le_refl _) _) (rucs_one R) hx0.out.1.1 hx0.out.1.2 (by have := hb2.out.size; simp; omega) ?_
                         intro v5 w5 ho5 hg5 ha5
                         rw [Nat.zero_add, List.nil_append] at ho5
                         obtain ⟨A9, c9, rfl, oi⟩ := oi_start hb2.out ho5 hg5
                         replace oi := Lib.hid oi
                         clear ho5 hg5 ha5)
  clear hb1 hb2 RR hv
  go_wp2
  go_loopw [10] (fun v10 wr => ∃ i m, v10 = .int .i64 (i : Nat) ∧ i ≤ BY.length ∧ Hid (OI w wr R A9 c9 m)) (fun v10 _ => BY.length - (intOf v10).toNat)
  case atStart => exact ⟨0, R, rfl, Nat.zero_le _, oi⟩
  case round =>
    clear oi
    obtain ⟨i, m, rfl, hi, oi⟩ := hrel
    by_cases hlt : i < BY.length
    · have hli := oi.out.len
      obtain ⟨ad, u, e1, e2, e3, e4⟩ := (hY.out.below oi.out.bel).at_ hlt
      rw [List.getElem?_map, List.getElem?_eq_getElem hlt] at e3
      injection e3 with e3
      subst e1 e3
      have yb := hy.out BY[i] (List.getElem_mem hlt)
      generalize BY[i] = y at *
      have hz : ((R.length : Int) == 0) = false := q1
      have x1 : (0 : Int) ≤ (i : Int) % (R.length : Int) := Int.emod_nonneg _ (by omega)
      have x2 : (i : Int) % (R.length : Int) < (R.length : Int) := Int.emod_lt_of_pos _ (by omega)
      have y1 : (0 : Int) ≤ y % (R.length : Int) := Int.emod_nonneg _ (by omega)
      have y2 : y % (R.length : Int) < (R.length : Int) := Int.emod_lt_of_pos _ (by omega)
      have d1 : IntKind.i64.wrap y = y := IntWalk.i64_in _ (by omega)
      have d2 : wrap64 y = y := (i64_w _).symm.trans d1
      have d3 : IntKind.i64.wrap ((i : Int) % (R.length : Int)) = (i : Int) % (R.length : Int) := IntWalk.i64_in _ (by omega)
      have d4 : wrap64 ((i : Int) % (R.length : Int)) = (i : Int) % (R.length : Int) := (i64_w _).symm.trans d3
      have d5 : IntKind.i64.wrap (y % (R.length : Int)) = y % (R.length : Int) := IntWalk.i64_in _ (by omega)
      have d6 : wrap64 (y % (R.length : Int)) = y % (R.length : Int) := (i64_w _).symm.trans d5
      have hli2 : (i : Int) < (BY.length : Int) := by omega
      go_upto_region 9 with fail
      go_quiet (fail)
      go_upto_region 10 with fail
      obtain ⟨x, hx⟩ := Int.eq_ofNat_of_zero_le x1
      obtain ⟨z, hz⟩ := Int.eq_ofNat_of_zero_le y1
      rw [hx] at x2
      rw [hz] at y2
      rw [hx, hz]
      have oi2 := Lib.hid (oi.out.below (pw_below_drewN (Below.refl _ wr) nq))
      clear oi d3 d4 d5 d6 x1 y1 hx hz
      generalize wr.drewN nq = W1 at *
      obtain ⟨g, rfl, hg1, hg2, hcap, hcs⟩ := oi2.out.at_ h0
      have cx := hcs x (by omega)
      have cz := hcs z (by omega)
      obtain ⟨rx, hrx⟩ : ∃ r, r = m[x] := ⟨_, rfl⟩
      obtain ⟨rz, hrz⟩ : ∃ r, r = m[z] := ⟨_, rfl⟩
      rw [← hrx] at cx
      rw [← hrz] at cz
      clear hcs
      have hcc := And.intro cx cz
      unfold RC at hcc
      go_region_held3 (fun w' => (w'.cell? { block := g, off := x * 3 } = some (.int .i64 rx.k) ∧ w'.cell? { block := g, off := x * 3 + 1 } = some (.int .i64 rx.l) ∧ w'.cell? { block := g, off := x * 3 + 2 } = some (.int .i64 rx.f)) ∧ w'.cell? { block := g, off := z * 3 } = some (.int .i64 rz.k) ∧ w'.cell? { block := g, off := z * 3 + 1 } = some (.int .i64 rz.l) ∧ w'.cell? { block := g, off := z * 3 + 2 } = some (.int .i64 rz.f)) (first | exact hcc | go_keep) (fail)
      · have O := Lib.hid (o2_a oi2.out m[x] m[z])
        obtain ⟨p, hp⟩ : ∃ p, W1.heap.size = p := ⟨_, rfl⟩
        obtain ⟨q, hq⟩ : ∃ q, W1.heap.size + 1 = q := ⟨_, rfl⟩
        rw [hq, hp] at O
        rw [hq, hp]
        have hgp : g ≠ p := by omega
        have hgq : g ≠ q := by omega
        clear hp hq cx cz hcc oi2
        generalize (World.drew _) = W2 at *
        go_upto_region 11 with fail
        have hlm := O.out.oi.len
        have oid := O.out.oi.below (below_drew (Below.refl _ _))
        have x3 : x < R.length := by omega
        have z3 : z < R.length := by omega
        have hW3 := oid.put x3 m[z]
        have hW4 := O.out.oi.put x3 m[z]
        obtain ⟨⟨cx0, cx1, cx2⟩, fr2, hgg⟩ := row_facts O.out.oi.own hlm x3 (by omega)
        obtain ⟨⟨cz0, cz1, cz2⟩, fr3, _⟩ := row_facts hW3.1 (by rw [List.length_set]; exact hlm) z3 (by rw [List.length_set]; omega)
        obtain ⟨⟨ca0, ca1, ca2⟩, fr4, _⟩ := row_facts hW4.1 (by rw [List.length_set]; exact hlm) z3 (by rw [List.length_set]; omega)
        unfold put3 at cz0 cz1 cz2 fr3 ca0 ca1 ca2 fr4
        have hbx := bx2 O.out.p O.out.q
        have hbx2 := bx2 (O.out.p.put (x := x) (b := m[z]) hgp) (O.out.q.put (x := x) (b := m[z]) hgq)
        have hbx3 := bx2 ((O.out.p.put (x := x) (b := m[z]) hgp).put (x := z) (b := m[x]) hgp) ((O.out.q.put (x := x) (b := m[z]) hgq).put (x := z) (b := m[x]) hgq)
        unfold put3 at hbx2 hbx3
        clear hW3 hW4
        go_region_held3 (fun w' => (w'.cell? { block := p, off := 0 } = some (.int .i64 m[x].k) ∧ w'.cell? { block := p, off := 1 } = some (.int .i64 m[x].l) ∧ w'.cell? { block := p, off := 2 } = some (.int .i64 m[x].f)) ∧ w'.cell? { block := q, off := 0 } = some (.int .i64 m[z].k) ∧ w'.cell? { block := q, off := 1 } = some (.int .i64 m[z].l) ∧ w'.cell? { block := q, off := 2 } = some (.int .i64 m[z].f)) (first | with_reducible exact hbx | with_reducible exact hbx2 | with_reducible exact hbx3) (fail)
        have ois := Lib.hid ((O.out.oi.swap x3 z3 m[x] m[z] (getD_at m (by omega)).symm (getD_at m (by omega)).symm).below (below_drew (Below.refl _ _)))
        unfold put3 at ois
        clear hbx hbx2 hbx3 cx0 cx1 cx2 cz0 cz1 cz2 ca0 ca1 ca2 fr2 fr3 fr4 oid O
        have d8 : IntKind.i64.wrap ((i : Int) + 1) = (i : Int) + 1 := IntWalk.i64_in _ (by omega)
        go_wp2
        go_roundw
        case rel => exact ⟨i + 1, swp m x z, by go_num, by omega, ois⟩
        case measure => simp [intOf]; omega
      · have O := Lib.hid (o2_swap (o2_a oi2.out m[z] m[x]))
        obtain ⟨p, hp⟩ : ∃ p, W1.heap.size + 1 = p := ⟨_, rfl⟩
        obtain ⟨q, hq⟩ : ∃ q, W1.heap.size = q := ⟨_, rfl⟩
        rw [hp, hq] at O
        rw [hp, hq]
        have hgp : g ≠ p := by omega
        have hgq : g ≠ q := by omega
        clear hp hq cx cz hcc oi2
        generalize (World.drew _) = W2 at *
        go_upto_region 11 with fail
        have hlm := O.out.oi.len
        have oid := O.out.oi.below (below_drew (Below.refl _ _))
        have x3 : x < R.length := by omega
        have z3 : z < R.length := by omega
        have hW3 := oid.put x3 m[z]
        have hW4 := O.out.oi.put x3 m[z]
        obtain ⟨⟨cx0, cx1, cx2⟩, fr2, hgg⟩ := row_facts O.out.oi.own hlm x3 (by omega)
        obtain ⟨⟨cz0, cz1, cz2⟩, fr3, _⟩ := row_facts hW3.1 (by rw [List.length_set]; exact hlm) z3 (by rw [List.length_set]; omega)
        obtain ⟨⟨ca0, ca1, ca2⟩, fr4, _⟩ := row_facts hW4.1 (by rw [List.length_set]; exact hlm) z3 (by rw [List.length_set]; omega)
        unfold put3 at cz0 cz1 cz2 fr3 ca0 ca1 ca2 fr4
        have hbx := bx2 O.out.p O.out.q
        have hbx2 := bx2 (O.out.p.put (x := x) (b := m[z]) hgp) (O.out.q.put (x := x) (b := m[z]) hgq)
        have hbx3 := bx2 ((O.out.p.put (x := x) (b := m[z]) hgp).put (x := z) (b := m[x]) hgp) ((O.out.q.put (x := x) (b := m[z]) hgq).put (x := z) (b := m[x]) hgq)
        unfold put3 at hbx2 hbx3
        clear hW3 hW4
        go_region_held3 (fun w' => (w'.cell? { block := p, off := 0 } = some (.int .i64 m[x].k) ∧ w'.cell? { block := p, off := 1 } = some (.int .i64 m[x].l) ∧ w'.cell? { block := p, off := 2 } = some (.int .i64 m[x].f)) ∧ w'.cell? { block := q, off := 0 } = some (.int .i64 m[z].k) ∧ w'.cell? { block := q, off := 1 } = some (.int .i64 m[z].l) ∧ w'.cell? { block := q, off := 2 } = some (.int .i64 m[z].f)) (first | with_reducible exact hbx | with_reducible exact hbx2 | with_reducible exact hbx3) (fail)
        have ois := Lib.hid ((O.out.oi.swap x3 z3 m[x] m[z] (getD_at m (by omega)).symm (getD_at m (by omega)).symm).below (below_drew (Below.refl _ _)))
        unfold put3 at ois
        clear hbx hbx2 hbx3 cx0 cx1 cx2 cz0 cz1 cz2 ca0 ca1 ca2 fr2 fr3 fr4 oid O
        have d8 : IntKind.i64.wrap ((i : Int) + 1) = (i : Int) + 1 := IntWalk.i64_in _ (by omega)
        go_wp2
        go_roundw
        case rel => exact ⟨i + 1, swp m x z, by go_num, by omega, ois⟩
        case measure => simp [intOf]; omega
    · obtain rfl : i = BY.length := by omega
      clear hlt
      obtain ⟨ad0, rfl, hadb, hra⟩ := (hR.out.below oi.out.bel) h0
      obtain ⟨c00, c01, c02⟩ := hra 0 h0
      rw [Nat.zero_mul, add_zero_] at c00 c01 c02
      have e00 : R[0] = R.getD 0 zr := (getD_at R h0).symm
      rw [e00] at c00 c01 c02
      generalize hr00 : R.getD 0 zr = r0 at *
      have hr0in : r0 ∈ R := by rw [← hr00, getD_at R h0]; exact List.getElem_mem h0
      go_upto_region 13 with (at_builtin
                              refine wpList_append_any _ rfl _ _ 22 rfl w.heap.size 24 ir _ 3 24 Try.underlying22 hir.out zr0 zr1 zr2 rfl (by decide) _ _ _ rfl (World.ownsRow.alloc oi.out.own (.cells #[.int .i64 r0.k, .int .i64 r0.l, .int .i64 r0.f] 24)) _ _ 1 1 (ruc r0) rfl (reads3 (heap_alloc_new wr (.cells #[.int .i64 r0.k, .int .i64 r0.l, .int .i64 r0.f] 24))) (by unfold ruc; simp [Value.oneCell']) hx0.out.2.1 hx0.out.2.2 (by have := oi.out.bel.size; simp; omega) ?_
                              intro v6 w6 ho6 hg6 ha6
                              obtain ⟨m2, A6, c6, rfl, hl6, ho6', hb6, hm6⟩ := oi_more oi.out hr0in ho6 hg6
                              replace ho6' := Lib.hid ho6'
                              replace hb6 := Lib.hid hb6
                              replace hm6 := Lib.hid hm6
                              clear ho6 hg6 ha6)
      clear oi c00 c01 c02 hra hr00 e00
      have rt2 : Rt m2 := ⟨by omega, fun r hr => RT.out.r r ((hm6.out r).1 hr)⟩
      have RT2 := Lib.hid rt2
      have C2 : Hid (∀ W, Below w6.heap.size w6 W → Calls Try.prog 14 #[.slice A6 (R.length + 1) c6] W (CompPost m2 W)) := Lib.hid (fun W h => by
        have hru : RuRow W W.heap.size A6 m2 := own_ru (c := c6) (base := w.heap.size) (by rw [hl6]; exact own_below ho6'.out h)
        have := compile_ok (c0 := c6) hru RT2.out.len RT2.out.r
        rw [hl6] at this
        exact this)
      clear rt2 hl6 ho6'
      go_upto_region 14 with (go_at_call 14; refine (comp_lw hR.out RT.out hb6.out).mono ?_; rintro e w7 ⟨A, c, ks, rfl, hk7, hm7, hb7⟩; replace hb7 := Lib.hid hb7; replace hk7 := Lib.hid hk7; replace hm7 := Lib.hid hm7)
      have X7 := Lib.hid (below_alloc (Below.refl w7.heap.size w7) (.cells #[.slice A ks.length c, .int .i64 (neverF R).1, .bool (neverF R).2] 32))
      have hb67 := Lib.hid (hb7.out.trans (X7.out.mono hb7.out.size))
      go_upto_region 15 with (go_at_call 14; (with_reducible refine (C2.out _ hb67.out).mono ?_); rintro e w8 ⟨A2, c2, ks2, rfl, hk8, hm8, hb8⟩; replace hb8 := Lib.hid hb8; replace hk8 := Lib.hid hk8; replace hm8 := Lib.hid hm8)
      have X8 := Lib.hid (below_alloc (Below.refl w8.heap.size w8) (.cells #[.slice A2 ks2.length c2, .int .i64 (neverF m2).1, .bool (neverF m2).2] 32))
      have hbw := Lib.hid (hb6.out.trans (hb67.out.mono hb6.out.size))
      have hbw8 := Lib.hid ((hbw.out.trans (hb8.out.mono hbw.out.size)).trans (X8.out.mono (Nat.le_trans hbw.out.size hb8.out.size)))
      have hb88 := Lib.hid (hb8.out.trans (X8.out.mono hb8.out.size))
      go_upto_region 16 with (go_at_call 15; (with_reducible refine (made_calls (B := w.heap.size) (hS.out.below hbw8.out) hbw8.out.size hs.out h30).mono ?_); rintro e w9 ⟨b, gx, rfl, ⟨base, A4, c4, hl1, hl2, hl3, ht4⟩, hx4, hb9⟩; have H1 := Lib.hid (lw_mk RT.out hb6.out hk7.out hm7.out hb7.out (Nat.le_trans hb88.out.size hl1) (Nat.le_trans hb88.out.size hl2) hl3 ⟨_, _, ht4⟩ (hb88.out.trans (hb9.mono hb88.out.size))); have H2 := Lib.hid (lw_mk RT2.out hbw.out hk8.out hm8.out hb8.out hl1 hl2 hl3 ⟨_, _, ht4⟩ hb9); clear hl1 hl2 hl3 ht4 hx4 hb9)
      generalize mkM L L.length = M at *
      have em : mn m2 M num = mn R M num := mins_same hm6.out
      have et : tl m2 M num = tl R M num := by
        show (mn m2 M num).getLastD 0 = (mn R M num).getLastD 0
        rw [em]
      have hml : (mn R M num).length ≤ 16 := Nat.le_trans (mins_len _ _ _ _) (Nat.le_trans (List.length_filter_le _ _) RT.out.len)
      clear hk7 hm7 hb7 X7 hb67 hk8 hm8 hb8 X8 hbw hbw8 hb88 hb6 hm6 hS hs hR hY hy C2 RT RT2
      generalize (w7.alloc (.cells #[.slice A ks.length c, .int .i64 (neverF R).1, .bool (neverF R).2] 32)).heap.size = kb2 at *
      generalize w7.heap.size = qa at *
      generalize w8.heap.size = qb at *
      generalize w6.heap.size = kb1 at *
      have M1 := Lib.hid (fun w5 h => LW.mins (w := w) (wr := w5) (R := R) (base := base) (b := b) (kb := kb1) (q := qa) (A := A) (c := c) (ks := ks) h G.out num)
      have M2 := fun w5 h => LW.mins (w := w) (wr := w5) (R := m2) (base := base) (b := b) (kb := kb2) (q := qb) (A := A2) (c := c2) (ks := ks2) h G.out num
      have T1 := Lib.hid (fun w5 h => LW.till (w := w) (wr := w5) (R := R) (base := base) (b := b) (kb := kb1) (q := qa) (A := A) (c := c) (ks := ks) h G.out num)
      have T2 := fun w5 h => LW.till (w := w) (wr := w5) (R := m2) (base := base) (b := b) (kb := kb2) (q := qb) (A := A2) (c := c2) (ks := ks2) h G.out num
      rw [em] at M2
      rw [et] at T2
      replace M2 := Lib.hid M2
      replace T2 := Lib.hid T2
      clear em et
      generalize mn R M num = xs at *
      generalize tl R M num = t at *
      have hc9 := And.intro H1.out.cells H2.out.cells
      go_region_held3 (fun w' => (w'.cell? { block := qa, off := 0 } = some (.slice A ks.length c) ∧ w'.cell? { block := qa, off := 1 } = some (.int .i64 (neverF R).1) ∧ w'.cell? { block := qa, off := 2 } = some (.bool (neverF R).2)) ∧ w'.cell? { block := qb, off := 0 } = some (.slice A2 ks2.length c2) ∧ w'.cell? { block := qb, off := 1 } = some (.int .i64 (neverF m2).1) ∧ w'.cell? { block := qb, off := 2 } = some (.bool (neverF m2).2)) (first | exact hc9 | exact hc10 | exact hc11)
        ((first
          | (go_at_call 18
             (with_reducible refine (M1.out _ (H1.out.below (below_drew (Below.refl _ _)))).mono ?_)
             rintro e w10 ⟨v10, rfl, ho10, hb10⟩
             have H1a := Lib.hid (H1.out.below ((below_drew (Below.refl _ _)).trans hb10))
             have H2a := Lib.hid (H2.out.below ((below_drew (Below.refl _ _)).trans hb10))
             have hc10 := And.intro H1a.out.cells H2a.out.cells
             replace ho10 := Lib.hid ho10
             clear hb10)
          | (go_at_call 18
             (with_reducible refine (M2.out _ H2a.out).mono ?_)
             rintro e w11 ⟨v11, rfl, ho11, hb11⟩
             have H1b := Lib.hid (H1a.out.below hb11)
             have H2b := Lib.hid (H2a.out.below hb11)
             have hc11 := And.intro H1b.out.cells H2b.out.cells
             have ho10b := Lib.hid (own_below ho10.out hb11)
             replace ho11 := Lib.hid ho11
             clear hb11)))
      clear H1 H2 H1a H2a ho10 hc9 hc10 M1 M2
      obtain ⟨A10, c10, rfl, hcc10⟩ := own_slice_cap ho10b.out
      obtain ⟨A11, c11, rfl, hcc11⟩ := own_slice_cap ho11.out
      generalize w9.drew.heap.size = B10 at *
      generalize w10.heap.size = B11 at *
      go_upto_region 17 with fail
      go_region_held3 (fun w' => (w'.cell? { block := qa, off := 0 } = some (.slice A ks.length c) ∧ w'.cell? { block := qa, off := 1 } = some (.int .i64 (neverF R).1) ∧ w'.cell? { block := qa, off := 2 } = some (.bool (neverF R).2)) ∧ w'.cell? { block := qb, off := 0 } = some (.slice A2 ks2.length c2) ∧ w'.cell? { block := qb, off := 1 } = some (.int .i64 (neverF m2).1) ∧ w'.cell? { block := qb, off := 2 } = some (.bool (neverF m2).2)) (first | exact hc11 | exact hc12 | exact hc13)
        ((first
          | (go_at_call 16
             (with_reducible refine (T1.out _ (H1b.out.below (below_drew (Below.refl _ _)))).mono ?_)
             rintro e w12 ⟨rfl, hb12⟩
             have H1c := Lib.hid (H1b.out.below ((below_drew (Below.refl _ _)).trans hb12))
             have H2c := Lib.hid (H2b.out.below ((below_drew (Below.refl _ _)).trans hb12))
             have hc12 := And.intro H1c.out.cells H2c.out.cells
             have ho10c := Lib.hid (own_below ho10b.out ((below_drew (Below.refl _ _)).trans hb12))
             have ho11c := Lib.hid (own_below ho11.out ((below_drew (Below.refl _ _)).trans hb12))
             clear hb12)
          | (go_at_call 16
             (with_reducible refine (T2.out _ H2c.out).mono ?_)
             rintro e w13 ⟨rfl, hb13⟩
             have H1d := Lib.hid (H1c.out.below hb13)
             have H2d := Lib.hid (H2c.out.below hb13)
             have hc13 := And.intro H1d.out.cells H2d.out.cells
             have ho10d := Lib.hid (own_below ho10c.out hb13)
             have ho11d := Lib.hid (own_below ho11c.out hb13)
             clear hb13)))
      have hB13 := Lib.hid H1d.out.kt.bel
      clear H1b H2b H1c H2c H1d H2d ho10b ho11 ho10c ho11c hc11 hc12 hc13 T1 T2
      go_wp2
      go_loopw [23] (fun v23 wr => ∃ j, v23 = .int .i64 (j : Nat) ∧ j ≤ xs.length ∧ Hid (Below w.heap.size w wr) ∧ Hid (wr.ownsRow B10 3 1 (.slice A10 xs.length c10) xs.length (xs.map (Value.int .i64))) ∧ Hid (wr.ownsRow B11 3 1 (.slice A11 xs.length c11) xs.length (xs.map (Value.int .i64)))) (fun v23 _ => xs.length - (intOf v23).toNat)
      case atStart => exact ⟨0, rfl, Nat.zero_le _, hB13, ho10d, ho11d⟩
      case round =>
        clear hB13 ho10d ho11d
        obtain ⟨j, rfl, hj, hB, ho10, ho11⟩ := hrel
        by_cases hlt : j < xs.length
        · obtain ⟨qx, rfl, hcx⟩ := own_cell ho10.out hlt
          obtain ⟨qy, rfl, hcy⟩ := own_cell ho11.out hlt
          have d1 : IntKind.i64.wrap ((j : Int) + 1) = (j : Int) + 1 := IntWalk.i64_in _ (by omega)
          have q4 : decide ((j : Int) < (xs.length : Int)) = true := decide_eq_true (by omega)
          generalize xs[j] = y at *
          go_upto_region 22 with fail
          go_quiet (fail)
          go_wp2
          go_roundw
          case rel => exact ⟨j + 1, by go_num, by omega, Lib.hid (pw_below_drewN hB.out _), Lib.hid (own_below ho10.out (pw_below_drewN (Below.refl _ _) _)), Lib.hid (own_below ho11.out (pw_below_drewN (Below.refl _ _) _))⟩
          case measure => simp [intOf]; omega
        · obtain rfl : j = xs.length := by omega
          go_wp2
          go_ret
          exact ⟨rfl, hB.out⟩
theorem order_any (A0 : Option Addr) (c0 : Nat) (R : List Ru) (PB : Option Addr) (cb : Nat) (BY : List Int) (P : Option Addr) (cs : Nat) (L : List Int) (num : Int) (w : World) (hR : Kd.C kRu w A0 R.length R) (hl : R.length ≤ maxLen) (hY : Kd.C (Kd.int .u8) w PB BY.length BY) (hy : ∀ a ∈ BY, (Lit.int .u8 a).wf = true) (hS : Kd.C (Kd.int .u8) w P L.length L) (hw : ∀ a ∈ L, (Lit.int .u8 a).wf = true) :
    Calls Try.prog 4 #[.slice A0 R.length c0, .slice PB BY.length cb, .slice P L.length cs, .int .u64 num] w fun e w' => e = .returned (.bool true) ∧ Below w.heap.size w w' := by
  by_cases h : 30 < L.length ∨ R.length = 0 ∨ 15 < R.length ∨ 40 < BY.length ∨ rightL R = false
  · exact order_skip A0 PB P c0 cb cs BY.length L.length R num w (ru_row hR) hl h
  · simp only [not_or] at h
    obtain ⟨h1, h2, h3, h4, h5⟩ := h
    exact order_in A0 PB P c0 cb cs R BY L num w (ru_row hR) (by simpa using h5) (steps_came hY) (steps_wf hy) (steps_came hS) (steps_wf hw) (by omega) (by omega) (by omega) (by omega)
end Go.Proofs.Ytonlbeonblpblaa.All
