/-
  The law CalautoEnds tells true of every input. No condition.
-/
import Derived.Test.YtonlbeonblpblaaLaw
namespace Go.Proofs.Ytonlbeonblpblaa.All
open Go.RowKit Go.Proofs.YtonlbeonblpblaaW.PrintWords Go.Proofs.YtonlbeonblpblaaW.PrintLast Go.Proofs.YtonlbeonblpblaaW.PrintMore Go.Proofs.Ytonlbeonblpblaa.Wd
set_option linter.unusedVariables false
set_option linter.unusedSimpArgs false
private theorem ym (motive : Option Value → Sort _) (h1 : (b : Bool) → motive (some (.bool b))) (h2 : (x : Option Value) → motive x) : Go.yielded.match_1 motive (some undef) h1 h2 = h2 (some undef) := rfl
attribute [local go_sem, local simp] ym
theorem ends_none {R : List Ru} {M : List It} (g : Good M) {num : Int} (h : ¬ 0 < (mn R M num).length) : tl R M num = 0 ∧ sy R M num (minM M num) = false := by
  have h1 : tl R M num = 0 := till_none h
  have h2 := (minM_rng g num).1
  refine ⟨h1, ?_⟩
  show (hit M num && decide (minM M num < tl R M num)) = false
  rw [h1, decide_eq_false (by omega), Bool.and_false]
theorem ends_some {R : List Ru} (rt : Rt R) {M : List It} (g : Good M) {num : Int} (h : 0 < (mn R M num).length) : hit M num = true ∧ (∀ i (hi : i < (mn R M num).length), minM M num < (mn R M num)[i] ∧ (mn R M num)[i] ≤ 2147483648) ∧ (∀ hq : (mn R M num).length - 1 < (mn R M num).length, (mn R M num)[(mn R M num).length - 1] = tl R M num) ∧ sy R M num (tl R M num - 1) = true ∧ sy R M num (tl R M num) = false := by
  have h1 := till_in h
  have h2 := ((mins_mem _ _ _ _ _).1 h1).1
  have h3 := minM_rng g num
  refine ⟨h2, fun i hi => ?_, fun _ => (last_get _ h).symm, ?_, ?_⟩
  · obtain ⟨_, r, hr, _, e⟩ := (mins_mem M num (neverF R) (ksOf R) _).1 (List.getElem_mem hi)
    have := rt.span hr
    rw [← e]
    omega
  · show (hit M num && decide (tl R M num - 1 < tl R M num)) = true
    rw [h2, decide_eq_true (by omega)]
    rfl
  · show (hit M num && decide (tl R M num < tl R M num)) = false
    rw [decide_eq_false (by omega), Bool.and_false]
theorem ends_up {R : List Ru} {M : List It} {num : Int} {i : Nat} (hi : i + 1 < (mn R M num).length) (hi2 : i < (mn R M num).length) : (mn R M num)[i] < (mn R M num)[i + 1] :=
  List.pairwise_iff_getElem.1 (mins_up M num (neverF R) (ksOf R)) i (i + 1) hi2 hi (by omega)
set_option maxRecDepth 100000 in
set_option maxHeartbeats 4000000 in
theorem ends_skip (A0 P : Option Addr) (c0 cs n : Nat) (R : List Ru) (num : Int) (w : World) (hR : RuRow w w.heap.size A0 R) (hl : R.length ≤ maxLen) (h : 30 < n ∨ rightL R = false) :
    Calls Try.prog 7 #[.slice A0 R.length c0, .slice P n cs, .int .u64 num] w fun e w' => e = .returned (.bool true) ∧ Below w.heap.size w w' := by
  replace hR := Lib.hid hR
  by_cases h30 : 30 < n
  · have q1 : decide ((30 : Int) < (n : Int)) = true := decide_eq_true (by omega)
    go_enter Try.func7, Try.ntmps7
    go_wp2_with (go_at_call 11; refine (awake_calls _).mono ?_; rintro e w1 ⟨rfl, hb1⟩; replace hb1 := Lib.hid hb1)
    go_ret
    exact ⟨rfl, hb1.out⟩
  · have q1 : decide ((30 : Int) < (n : Int)) = false := decide_eq_false (by omega)
    have hv := Lib.hid (rightV_no (h.resolve_left h30))
    clear h
    go_enter Try.func7, Try.ntmps7
    go_wp2_with (first
      | (go_at_call 11; refine (awake_calls _).mono ?_; rintro e w1 ⟨rfl, hb1⟩; replace hb1 := Lib.hid hb1)
      | (go_at_call 12; refine (right16_calls (hR.out.up hb1.out) hl).mono ?_; rintro e w2 ⟨rfl, hb2⟩; rw [hv.out]; replace hb2 := Lib.hid (hb1.out.trans (hb2.mono hb1.out.size))))
    go_ret
    exact ⟨rfl, hb2.out⟩
theorem comp_lw {R : List Ru} {A0 : Option Addr} {c0 : Nat} {w w1 : World} (hR : RuRow w w.heap.size A0 R) (rt : Rt R) (hb : Below w.heap.size w w1) :
    Calls Try.prog 14 #[.slice A0 R.length c0] w1 (CompPost R w1) := compile_ok (hR.up hb) rt.len rt.r
theorem lw_mk {w w1 w3 w4 : World} {R : List Ru} {M : List It} {A : Option Addr} {c : Nat} {ks : List (Ru × Nat)} {base b : Nat} (rt : Rt R) (hb1 : Below w.heap.size w w1) (hk : KAt w3 w1.heap.size A c ks) (hm : ks.map (·.1) = ksOf R) (hb3 : Below w1.heap.size w1 w3)
    (hl1 : (w3.alloc (.cells #[.slice A ks.length c, .int .i64 (neverF R).1, .bool (neverF R).2] 32)).heap.size ≤ base) (hl2 : (w3.alloc (.cells #[.slice A ks.length c, .int .i64 (neverF R).1, .bool (neverF R).2] 32)).heap.size ≤ b) (hl3 : base ≤ w4.heap.size) (ht : ∃ A c, TAt w4 base b A c M)
    (hb4 : Below (w3.alloc (.cells #[.slice A ks.length c, .int .i64 (neverF R).1, .bool (neverF R).2] 32)).heap.size (w3.alloc (.cells #[.slice A ks.length c, .int .i64 (neverF R).1, .bool (neverF R).2] 32)) w4) : LW w w4 R M base b w1.heap.size w3.heap.size A c ks := by
  have hba := below_alloc (Below.refl w3.heap.size w3) (.cells #[.slice A ks.length c, .int .i64 (neverF R).1, .bool (neverF R).2] 32)
  have hw3 : w.heap.size ≤ w3.heap.size := Nat.le_trans hb1.size hb3.size
  have hwa := hba.size
  have hb3w : Below w.heap.size w w3 := hb1.trans (hb3.mono hb1.size)
  have hbw : Below w.heap.size w w4 := (hb3w.trans (hba.mono hw3)).trans (hb4.mono (by omega))
  have hx := heap_alloc_new w3 (.cells #[.slice A ks.length c, .int .i64 (neverF R).1, .bool (neverF R).2] 32)
  exact ⟨⟨ht, (hk.below hba).below hb4, hbw, by omega, by omega, hl3⟩, (hb4.block _ (lt_heap hx)).trans hx, rt, hm⟩
set_option maxRecDepth 100000 in
set_option maxHeartbeats 4000000 in
theorem ends_in (A0 P : Option Addr) (c0 cs : Nat) (R : List Ru) (L : List Int) (num : Int) (w : World) (hR : RuRow w w.heap.size A0 R) (hr : rightL R = true) (hS : Reads w w.heap.size 1 P L.length (L.map (Value.int .u8))) (hs : Steps L) (h30 : L.length ≤ 30) :
    Calls Try.prog 7 #[.slice A0 R.length c0, .slice P L.length cs, .int .u64 num] w fun e w' => e = .returned (.bool true) ∧ Below w.heap.size w w' := by
  have rt : Rt R := ⟨(rightL_parts hr).1, (rightL_parts hr).2⟩
  have hl : R.length ≤ maxLen := Nat.le_trans rt.len (by decide)
  have hv := Lib.hid (rightV_yes hr)
  have q1 : decide ((30 : Int) < (L.length : Int)) = false := decide_eq_false (by omega)
  have g := mkM_good hs (Nat.le_refl _) h30
  have RT := Lib.hid rt
  have G := Lib.hid g
  replace hR := Lib.hid hR
  replace hS := Lib.hid hS
  replace hs := Lib.hid hs
  clear hr rt g
  go_enter Try.func7, Try.ntmps7
  go_upto_region 5 with (first
      | (go_at_call 11; refine (awake_calls _).mono ?_; rintro e w1 ⟨rfl, hb1⟩; replace hb1 := Lib.hid hb1)
      | (go_at_call 12; refine (right16_calls (hR.out.up hb1.out) hl).mono ?_; rintro e w2 ⟨rfl, hb2⟩; rw [hv.out]; replace hb2 := Lib.hid (hb1.out.trans (hb2.mono hb1.out.size))))
  go_upto_region 6 with (go_at_call 14; refine (comp_lw hR.out RT.out hb2.out).mono ?_; rintro e w3 ⟨A, c, ks, rfl, hk3, hm3, hb3⟩; replace hb3 := Lib.hid hb3; replace hk3 := Lib.hid hk3; replace hm3 := Lib.hid hm3)
  have XB := Lib.hid (fun (w4 : World) (h : Below w3.heap.size w3 w4) => (hb2.out.trans (hb3.out.mono hb2.out.size)).trans (h.mono (Nat.le_trans hb2.out.size hb3.out.size)))
  have XL := Lib.hid (fun (w4 : World) (h : Below w3.heap.size w3 w4) => (XB.out w4 h).size)
  go_upto_region 7 with (go_at_call 15; (with_reducible refine (made_calls (B := w.heap.size) (hS.out.below (XB.out _ (below_alloc (Below.refl _ _) _))) (XL.out _ (below_alloc (Below.refl _ _) _)) hs.out h30).mono ?_); rintro e w4 ⟨b, gx, rfl, ⟨base, A4, c4, hl1, hl2, hl3, ht4⟩, hx4, hb4⟩; have H := Lib.hid (lw_mk RT.out hb2.out hk3.out hm3.out hb3.out hl1 hl2 hl3 ⟨_, _, ht4⟩ hb4); clear hl1 hl2 hl3 ht4 hx4 hb4)
  generalize mkM L L.length = M at *
  clear hb3 hk3 hm3 XB XL hb1 hb2 hR hS hs hv
  generalize w3.heap.size = q at *
  generalize w2.heap.size = kb at *
  have hc4 := H.out.cells
  go_region_held3 (fun w' => w'.cell? { block := q, off := 0 } = some (.slice A ks.length c) ∧ w'.cell? { block := q, off := 1 } = some (.int .i64 (neverF R).1) ∧ w'.cell? { block := q, off := 2 } = some (.bool (neverF R).2)) (first | exact hc4 | exact hc5 | exact hc6)
    ((first
      | (go_at_call 18
         refine ((H.out.below (below_drew (Below.refl _ _))).mins G.out num).mono ?_
         rintro e w5 ⟨v5, rfl, ho5, hb5⟩
         have H5 := Lib.hid (H.out.below ((below_drew (Below.refl _ _)).trans hb5))
         have hc5 := H5.out.cells
         replace ho5 := Lib.hid ho5
         clear hb5)
      | (go_at_call 16
         refine (H5.out.till G.out num).mono ?_
         rintro e w6 ⟨rfl, hb6⟩
         have H6 := Lib.hid (H5.out.below hb6)
         have ho6 := Lib.hid (own_below ho5.out hb6)
         have hc6 := H6.out.cells
         clear hb6)))
  clear H H5 ho5 hc4 hc5
  obtain ⟨A5, c5, rfl, hcc⟩ := own_slice_cap ho6.out
  have hml : (mn R M num).length ≤ 16 := Nat.le_trans (mins_len _ _ _ _) (Nat.le_trans (List.length_filter_le _ _) RT.out.len)
  by_cases h0 : 0 < (mn R M num).length
  · obtain ⟨e1, e2, e3, e4, e5⟩ := ends_some RT.out G.out h0
    have e6 := fun (i : Nat) (hi : i + 1 < (mn R M num).length) hi2 => ends_up (num := num) hi hi2
    have hxs := Lib.hid (And.intro e2 e6)
    have hz : (((mn R M num).length : Int) == 0) = false := beq_eq_false_iff_ne.2 (by omega)
    have Mn := fun w5 h => LW.min (w := w) (wr := w5) (R := R) (base := base) (b := b) (kb := kb) (q := q) (A := A) (c := c) (ks := ks) h G.out num
    rw [e1] at Mn
    replace Mn := Lib.hid Mn
    have d1 : IntKind.i64.wrap (tl R M num - 1) = tl R M num - 1 := by
      have := e2 ((mn R M num).length - 1) (by omega)
      rw [e3 (by omega)] at this
      have := (minM_rng G.out num).1
      exact IntWalk.i64_in _ (by omega)
    have S1 := fun w5 h => LW.stays (w := w) (wr := w5) (R := R) (base := base) (b := b) (kb := kb) (q := q) (A := A) (c := c) (ks := ks) h G.out num (tl R M num - 1)
    have S2 := fun w5 h => LW.stays (w := w) (wr := w5) (R := R) (base := base) (b := b) (kb := kb) (q := q) (A := A) (c := c) (ks := ks) h G.out num (tl R M num)
    rw [e4] at S1
    rw [e5] at S2
    replace S1 := Lib.hid S1
    replace S2 := Lib.hid S2
    clear e1 e2 e4 e5 e6
    generalize mn R M num = xs at *
    generalize tl R M num = t at *
    generalize minM M num = m at *
    go_upto_region 9 with (go_at_call 17; refine (Mn.out _ H6.out).mono ?_; rintro e w7 ⟨rfl, hb7⟩; have H7 := Lib.hid (H6.out.below hb7); have ho7 := Lib.hid (own_below ho6.out hb7); clear hb7 H6 ho6 hc6 Mn)
    go_wp2
    obtain ⟨B5, hB5⟩ : ∃ B5, w4.drew.heap.size = B5 := ⟨_, rfl⟩
    rw [hB5] at ho7
    clear hB5
    go_loopw [15] (fun v15 wr => ∃ i : Nat, v15 = .int .i64 i ∧ i ≤ xs.length ∧ Hid (LW w wr R M base b kb q A c ks) ∧ Hid (wr.ownsRow B5 3 1 (.slice A5 xs.length c5) xs.length (xs.map (Value.int .i64)))) (fun v15 _ => xs.length - (intOf v15).toNat)
    case atStart => exact ⟨0, rfl, Nat.zero_le _, H7, ho7⟩
    case round =>
      clear H7 ho7
      obtain ⟨i, rfl, hi, H7, ho7⟩ := hrel
      by_cases hlt : i < xs.length
      · obtain ⟨q5, rfl, hcell⟩ := own_cell ho7.out hlt
        have d2 : IntKind.i64.wrap ((i : Int) + 1) = (i : Int) + 1 := IntWalk.i64_in _ (by omega)
        have q2 : decide ((i : Int) < (xs.length : Int)) = true := decide_eq_true (by omega)
        have q3 : decide (i < xs.length) = true := decide_eq_true hlt
        have y1 := (hxs.out.1 i hlt).1
        have q4 : decide (xs[i] < m) = false := decide_eq_false (by omega)
        cases i with
        | zero =>
          have q5 : decide ((0 : Int) < ((0 : Nat) : Int)) = false := rfl
          generalize xs[0] = y at *
          go_upto_region 14 with fail
          go_quiet (fail)
          go_wp2
          go_roundw
          case rel => exact ⟨1, by go_num, by omega, Lib.hid (H7.out.below (pw_below_drewN (Below.refl _ _) _)), Lib.hid (own_below ho7.out (pw_below_drewN (Below.refl _ _) _))⟩
          case measure => simp [intOf]; omega
        | succ j =>
          obtain ⟨q6, e6, hcell2⟩ := own_cell ho7.out (show j < xs.length by omega)
          injection e6 with e6
          injection e6 with e6
          subst e6
          have y2 := hxs.out.2 j hlt (by omega)
          have q5 : decide ((0 : Int) < ((j + 1 : Nat) : Int)) = true := decide_eq_true (by omega)
          have q6 : decide (xs[j + 1] ≤ xs[j]) = false := decide_eq_false (by omega)
          generalize xs[j + 1] = y at *
          generalize xs[j] = z at *
          go_upto_region 14 with fail
          go_quiet (fail)
          go_wp2
          go_roundw
          case rel => exact ⟨j + 2, by go_num, by omega, Lib.hid (H7.out.below (pw_below_drewN (Below.refl _ _) _)), Lib.hid (own_below ho7.out (pw_below_drewN (Below.refl _ _) _))⟩
          case measure => simp [intOf]; omega
      · obtain rfl : i = xs.length := by omega
        have e3' := e3 (by omega)
        have hlast : xs.length - 1 < xs.length := by omega
        obtain ⟨q5, rfl, hcell⟩ := own_cell ho7.out hlast
        rw [e3'] at hcell
        have d3 : IntKind.i64.wrap ((xs.length : Int) - 1) = (xs.length : Int) - 1 := IntWalk.i64_in _ (by omega)
        have d4 : ((xs.length : Int) - 1).toNat = xs.length - 1 := by omega
        have hc7 := H7.out.cells
        clear hlt e3 e3' hxs
        go_wp2_with (first
          | (go_at_call 23; (with_reducible refine (S1.out _ H7.out).mono ?_); rintro e w8 ⟨rfl, hb8⟩; have H8 := Lib.hid (H7.out.below hb8); have hc8 := H8.out.cells; clear hb8 S1)
          | (go_at_call 23; refine (S2.out _ H8.out).mono ?_; rintro e w9 ⟨rfl, hb9⟩; have H9 := Lib.hid (H8.out.below hb9); clear hb9))
        go_ret
        exact ⟨rfl, H9.out.kt.bel⟩
  · obtain ⟨e1, e2⟩ := ends_none (R := R) (num := num) G.out h0
    have hz : (((mn R M num).length : Int) == 0) = true := beq_iff_eq.2 (by omega)
    have S1 := fun w5 h => LW.stays (w := w) (wr := w5) (R := R) (base := base) (b := b) (kb := kb) (q := q) (A := A) (c := c) (ks := ks) h G.out num (minM M num)
    rw [e2] at S1
    rw [e1]
    replace S1 := Lib.hid S1
    have Mn := fun w5 h => LW.min (w := w) (wr := w5) (R := R) (base := base) (b := b) (kb := kb) (q := q) (A := A) (c := c) (ks := ks) h G.out num
    replace Mn := Lib.hid Mn
    clear e1 e2
    generalize mn R M num = xs at *
    generalize minM M num = m at *
    go_wp2_with (first
      | (go_at_call 17; refine (Mn.out _ H6.out).mono ?_; rintro e w7 ⟨rfl, hb7⟩; have H7 := Lib.hid (H6.out.below hb7); have hc7 := H7.out.cells; clear hb7)
      | (go_at_call 23; refine (S1.out _ H7.out).mono ?_; rintro e w8 ⟨rfl, hb8⟩; have H8 := Lib.hid (H7.out.below hb8); clear hb8))
    go_ret
    exact ⟨rfl, H8.out.kt.bel⟩
theorem ends_any (A0 : Option Addr) (c0 : Nat) (R : List Ru) (P : Option Addr) (cs : Nat) (L : List Int) (num : Int) (w : World) (hR : Kd.C kRu w A0 R.length R) (hl : R.length ≤ maxLen) (hS : Kd.C (Kd.int .u8) w P L.length L) (hw : ∀ a ∈ L, (Lit.int .u8 a).wf = true) :
    Calls Try.prog 7 #[.slice A0 R.length c0, .slice P L.length cs, .int .u64 num] w fun e w' => e = .returned (.bool true) ∧ Below w.heap.size w w' := by
  by_cases h30 : L.length ≤ 30
  · cases hr : rightL R with
    | true => exact ends_in A0 P c0 cs R L num w (ru_row hR) hr (steps_came hS) (steps_wf hw) h30
    | false => exact ends_skip A0 P c0 cs L.length R num w (ru_row hR) hl (.inr hr)
  · exact ends_skip A0 P c0 cs L.length R num w (ru_row hR) hl (.inl (by omega))
end Go.Proofs.Ytonlbeonblpblaa.All
