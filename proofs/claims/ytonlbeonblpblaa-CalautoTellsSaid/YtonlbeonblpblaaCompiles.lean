/-
  The law CalautoCompiles tells true of every input. No condition.
-/
import Derived.Test.YtonlbeonblpblaaAutoBad
namespace Go.Proofs.Ytonlbeonblpblaa.All
open Go.RowKit Go.Proofs.YtonlbeonblpblaaW.PrintWords Go.Proofs.YtonlbeonblpblaaW.PrintLast Go.Proofs.YtonlbeonblpblaaW.PrintMore Go.Proofs.Ytonlbeonblpblaa.Wd
set_option linter.unusedVariables false
set_option linter.unusedSimpArgs false
private theorem ym (motive : Option Value → Sort _) (h1 : (b : Bool) → motive (some (.bool b))) (h2 : (x : Option Value) → motive x) : Go.yielded.match_1 motive (some undef) h1 h2 = h2 (some undef) := rfl
attribute [local go_sem, local simp] ym
set_option maxRecDepth 100000 in
set_option maxHeartbeats 2000000 in
/-- The document's least Never. -/
theorem rnever_calls {L : List Ru} {A0 : Option Addr} {c0 : Nat} {w : World} (hR : RuRow w w.heap.size A0 L) (hl : L.length ≤ maxLen) :
    Calls Try.prog 20 #[.slice A0 L.length c0] w fun e w' => e = .returned (.tuple #[.int .i64 (neverF L).1, .bool (neverF L).2]) ∧ w = w' := by
  replace hR := Lib.hid hR
  unfold maxLen at hl
  go_enter Try.func20, Try.ntmps20
  go_wp2
  go_loop [4, 5, 6] (fun v4 v5 v6 => ∃ i, v6 = .int .i64 (i : Nat) ∧ i ≤ L.length ∧ v4 = .int .i64 (neverF (L.take i)).1 ∧ v5 = .bool (neverF (L.take i)).2) (fun _ _ v6 => L.length - (intOf v6).toNat)
  case atStart => exact ⟨0, rfl, Nat.zero_le _, rfl, rfl⟩
  case round =>
    obtain ⟨i, rfl, hi, rfl, rfl⟩ := hrel
    by_cases hlt : i < L.length
    · obtain ⟨ad, rfl, hadb, hra⟩ := hR.out (by omega)
      obtain ⟨c0, c1, c2⟩ := hra i hlt
      have HN := Lib.hid (never_take hlt)
      have d1 : IntKind.i64.wrap ((i : Int) + 1) = (i : Int) + 1 := IntWalk.i64_in _ (by omega)
      have q1 : decide ((i : Int) < (L.length : Int)) = true := decide_eq_true (by omega)
      clear hra
      generalize L[i] = r at *
      generalize neverF (L.take i) = N at *
      obtain ⟨N1, N2⟩ := N
      have HX := Lib.hid (show ∀ a b, neverStep (N1, N2) r = (a, b) → ∃ j, Value.int .i64 ((i : Int) + 1) = .int .i64 (j : Nat) ∧ j ≤ L.length ∧ Value.int .i64 a = .int .i64 (neverF (L.take j)).1 ∧ Value.bool b = .bool (neverF (L.take j)).2 from fun a b h => ⟨i + 1, by go_num, by omega, by rw [HN.out, h], by rw [HN.out, h]⟩)
      clear HN
      by_cases hk : r.k = 4
      · have q2 : (r.k == 4) = true := beq_iff_eq.2 hk
        cases N2 with
        | false =>
          have HY := Lib.hid (HX.out r.f true (by unfold neverStep; rw [if_pos hk, if_pos (.inl rfl)]))
          clear HX
          go_wp2
          exact ⟨HY.out, by simp [intOf]; omega⟩
        | true =>
          by_cases hf : r.f < N1
          · have q3 : decide (r.f < N1) = true := decide_eq_true hf
            have HY := Lib.hid (HX.out r.f true (by unfold neverStep; rw [if_pos hk, if_pos (.inr hf)]))
            clear HX
            go_wp2
            exact ⟨HY.out, by simp [intOf]; omega⟩
          · have q3 : decide (r.f < N1) = false := decide_eq_false hf
            have HY := Lib.hid (HX.out N1 true (by unfold neverStep; rw [if_pos hk, if_neg (fun h => h.elim (fun h => by cases h) hf)]))
            clear HX
            go_wp2
            exact ⟨HY.out, by simp [intOf]; omega⟩
      · have q2 : (r.k == 4) = false := beq_eq_false_iff_ne.2 hk
        have HY := Lib.hid (HX.out N1 N2 (by unfold neverStep; rw [if_neg hk]))
        clear HX
        go_wp2
        exact ⟨HY.out, by simp [intOf]; omega⟩
    · obtain rfl : i = L.length := by omega
      rw [List.take_length]
      go_wp2
      go_ret2
      exact ⟨rfl, rfl⟩
theorem lw_zero {w w3 w4 : World} {M : List It} {base b : Nat} (hb3 : Below w.heap.size w w3)
    (hl1 : (w3.alloc (.cells #[.slice none 0 0, .int .i64 0, .bool false] 32)).heap.size ≤ base) (hl2 : (w3.alloc (.cells #[.slice none 0 0, .int .i64 0, .bool false] 32)).heap.size ≤ b) (hl3 : base ≤ w4.heap.size) (ht : ∃ A c, TAt w4 base b A c M)
    (hb4 : Below (w3.alloc (.cells #[.slice none 0 0, .int .i64 0, .bool false] 32)).heap.size (w3.alloc (.cells #[.slice none 0 0, .int .i64 0, .bool false] 32)) w4) : LW w w4 [] M base b w.heap.size w3.heap.size none 0 [] :=
  lw_mk (w1 := w) ⟨by simp, fun r hr => absurd hr (by simp)⟩ (Below.refl _ _) ⟨⟨rfl, .inl ⟨rfl, rfl⟩⟩, fun p hp => absurd hp (by simp)⟩ rfl hb3 hl1 hl2 hl3 ht hb4
set_option maxRecDepth 100000 in
theorem compiles_skip (A0 : Option Addr) (n c0 : Nat) (w : World) (h : 20 < n) :
    Calls Try.prog 5 #[.slice A0 n c0] w fun e w' => e = .returned (.bool true) ∧ Below w.heap.size w w' := by
  have q1 : decide ((20 : Int) < (n : Int)) = true := decide_eq_true (by omega)
  go_enter Try.func5, Try.ntmps5
  go_wp2_with (go_at_call 11; refine (awake_calls _).mono ?_; rintro e w1 ⟨rfl, hb1⟩; replace hb1 := Lib.hid hb1)
  go_ret
  exact ⟨rfl, hb1.out⟩
theorem five : Steps [5] := fun x hx => by
  obtain rfl : x = 5 := by simpa using hx
  decide
set_option maxRecDepth 100000 in
set_option maxHeartbeats 4000000 in
theorem compiles_full (A0 : Option Addr) (c0 : Nat) (R : List Ru) (w : World) (hR : RuRow w w.heap.size A0 R) (h20 : R.length ≤ 20) (h16 : 16 < R.length) :
    Calls Try.prog 5 #[.slice A0 R.length c0] w fun e w' => e = .returned (.bool true) ∧ Below w.heap.size w w' := by
  have q1 : decide ((20 : Int) < (R.length : Int)) = false := decide_eq_false (by omega)
  have hl : R.length ≤ maxLen := Nat.le_trans h20 (by decide)
  have G := Lib.hid (mkM_good five (Nat.le_refl _) (by decide))
  replace hR := Lib.hid hR
  go_enter Try.func5, Try.ntmps5
  go_upto_region 5 with (go_at_call 11; refine (awake_calls _).mono ?_; rintro e w1 ⟨rfl, hb1⟩; replace hb1 := Lib.hid hb1)
  have q2 : decide ((16 : Int) < (R.length : Int)) = true := decide_eq_true (by omega)
  go_upto_region 6 with (go_at_call 14; refine (compile_full A0 R.length c0 _ h16).mono ?_; rintro e w3 ⟨rfl, hb3⟩; replace hb3 := Lib.hid (hb1.out.trans (hb3.mono hb1.out.size)))
  have X3 := Lib.hid (below_alloc (Below.refl w3.heap.size w3) (.cells #[.slice none 0 0, .int .i64 0, .bool false] 32))
  have X4 := Lib.hid (below_alloc (Below.refl (w3.alloc (.cells #[.slice none 0 0, .int .i64 0, .bool false] 32)).heap.size (w3.alloc (.cells #[.slice none 0 0, .int .i64 0, .bool false] 32))) (.cells #[.int .u8 5] 5))
  have hf := Lib.hid (reads_one (heap_alloc_new (w3.alloc (.cells #[.slice none 0 0, .int .i64 0, .bool false] 32)) (.cells #[.int .u8 5] 5)))
  have C5 : Hid (Calls Try.prog 15 #[.slice (some ⟨(w3.alloc (.cells #[.slice none 0 0, .int .i64 0, .bool false] 32)).heap.size, 0, none⟩) 1 1, .int .u64 0, .int .u64 0] ((w3.alloc (.cells #[.slice none 0 0, .int .i64 0, .bool false] 32)).alloc (.cells #[.int .u8 5] 5)) _) := Lib.hid (made_calls (L := [5]) (cs := 1) hf.out (by simp) five (by decide))
  rw [World.size_alloc] at C5
  go_upto_region 7 with (go_at_call 15; (with_reducible refine C5.out.mono ?_); rintro e w4 ⟨b, gx, rfl, ⟨base, A4, c4, hl1, hl2, hl3, ht4⟩, hx4, hb4⟩; have hl1' := Nat.le_trans X4.out.size hl1; have hl2' := Nat.le_trans X4.out.size hl2; have hb4' := X4.out.trans (hb4.mono X4.out.size); have H := Lib.hid (lw_zero hb3.out hl1' hl2' hl3 ⟨_, _, ht4⟩ hb4'); clear hl1 hl2 hl3 ht4 hx4 hb4 hl1' hl2' hb4')
  have hc4 := Lib.hid (show ∀ wr', LW w wr' [] (mkM [5] [(5 : Int)].length) base b w.heap.size w3.heap.size none 0 [] → wr'.cell? { block := w3.heap.size, off := 0 } = some (.slice none 0 0) ∧ wr'.cell? { block := w3.heap.size, off := 1 } = some (.int .i64 0) ∧ wr'.cell? { block := w3.heap.size, off := 2 } = some (.bool false) from fun wr' h => h.cells)
  have ZT := Lib.hid (show ∀ wr', LW w wr' [] (mkM [5] [(5 : Int)].length) base b w.heap.size w3.heap.size none 0 [] → Calls Try.prog 16 #[.agg #[.slice none 0 0, .int .i64 0, .bool false], .pointer (some ⟨b, 0, none⟩), .int .u64 1] wr' (fun e w' => e = .returned (.int .i64 0) ∧ Below wr'.heap.size wr' w') from fun wr' h => by have := h.till G.out 1; rw [nil_till] at this; exact this)
  have hcz := hc4.out _ H.out
  generalize w3.heap.size = q at *
  go_wp2_with (first
    | (go_at_call 19; refine (never_calls none 0 0 (0, false) _).mono ?_; rintro e w5 ⟨rfl, hb5⟩; have H5 := Lib.hid (H.out.below hb5); have hcz5 := hc4.out _ H5.out; clear hb5)
    | (go_at_call 16; (with_reducible refine (ZT.out _ H5.out).mono ?_); rintro e w6 ⟨rfl, hb6⟩; have H6 := Lib.hid ((H5.out).below hb6); clear hb6))
  go_ret
  exact ⟨rfl, H6.out.kt.bel⟩
set_option maxRecDepth 100000 in
set_option maxHeartbeats 4000000 in
theorem compiles_form (A0 : Option Addr) (c0 : Nat) (R : List Ru) (w : World) (hR : RuRow w w.heap.size A0 R) (h16 : R.length ≤ 16) (hr : R.all rightB = false) :
    Calls Try.prog 5 #[.slice A0 R.length c0] w fun e w' => e = .returned (.bool true) ∧ Below w.heap.size w w' := by
  have h20 : R.length ≤ 20 := by omega
  have hv := Lib.hid (rightV_no (show rightL R = false by unfold rightL; rw [hr, Bool.and_false]))
  have q1 : decide ((20 : Int) < (R.length : Int)) = false := decide_eq_false (by omega)
  have hl : R.length ≤ maxLen := Nat.le_trans h20 (by decide)
  have G := Lib.hid (mkM_good five (Nat.le_refl _) (by decide))
  replace hR := Lib.hid hR
  go_enter Try.func5, Try.ntmps5
  go_upto_region 5 with (go_at_call 11; refine (awake_calls _).mono ?_; rintro e w1 ⟨rfl, hb1⟩; replace hb1 := Lib.hid hb1)
  have q2 : decide ((16 : Int) < (R.length : Int)) = false := decide_eq_false (by omega)
  go_upto_region 6 with (go_at_call 14; refine (compile_bad (hR.out.up hb1.out) h16 hr).mono ?_; rintro e w3 ⟨rfl, hb3⟩; replace hb3 := Lib.hid (hb1.out.trans (hb3.mono hb1.out.size)))
  have X3 := Lib.hid (below_alloc (Below.refl w3.heap.size w3) (.cells #[.slice none 0 0, .int .i64 0, .bool false] 32))
  have X4 := Lib.hid (below_alloc (Below.refl (w3.alloc (.cells #[.slice none 0 0, .int .i64 0, .bool false] 32)).heap.size (w3.alloc (.cells #[.slice none 0 0, .int .i64 0, .bool false] 32))) (.cells #[.int .u8 5] 5))
  have hf := Lib.hid (reads_one (heap_alloc_new (w3.alloc (.cells #[.slice none 0 0, .int .i64 0, .bool false] 32)) (.cells #[.int .u8 5] 5)))
  have C5 : Hid (Calls Try.prog 15 #[.slice (some ⟨(w3.alloc (.cells #[.slice none 0 0, .int .i64 0, .bool false] 32)).heap.size, 0, none⟩) 1 1, .int .u64 0, .int .u64 0] ((w3.alloc (.cells #[.slice none 0 0, .int .i64 0, .bool false] 32)).alloc (.cells #[.int .u8 5] 5)) _) := Lib.hid (made_calls (L := [5]) (cs := 1) hf.out (by simp) five (by decide))
  rw [World.size_alloc] at C5
  go_upto_region 7 with (go_at_call 15; (with_reducible refine C5.out.mono ?_); rintro e w4 ⟨b, gx, rfl, ⟨base, A4, c4, hl1, hl2, hl3, ht4⟩, hx4, hb4⟩; have hl1' := Nat.le_trans X4.out.size hl1; have hl2' := Nat.le_trans X4.out.size hl2; have hb4' := X4.out.trans (hb4.mono X4.out.size); have H := Lib.hid (lw_zero hb3.out hl1' hl2' hl3 ⟨_, _, ht4⟩ hb4'); clear hl1 hl2 hl3 ht4 hx4 hb4 hl1' hl2' hb4')
  have hc4 := Lib.hid (show ∀ wr', LW w wr' [] (mkM [5] [(5 : Int)].length) base b w.heap.size w3.heap.size none 0 [] → wr'.cell? { block := w3.heap.size, off := 0 } = some (.slice none 0 0) ∧ wr'.cell? { block := w3.heap.size, off := 1 } = some (.int .i64 0) ∧ wr'.cell? { block := w3.heap.size, off := 2 } = some (.bool false) from fun wr' h => h.cells)
  have ZT := Lib.hid (show ∀ wr', LW w wr' [] (mkM [5] [(5 : Int)].length) base b w.heap.size w3.heap.size none 0 [] → Calls Try.prog 16 #[.agg #[.slice none 0 0, .int .i64 0, .bool false], .pointer (some ⟨b, 0, none⟩), .int .u64 1] wr' (fun e w' => e = .returned (.int .i64 0) ∧ Below wr'.heap.size wr' w') from fun wr' h => by have := h.till G.out 1; rw [nil_till] at this; exact this)
  have hcz := hc4.out _ H.out
  generalize w3.heap.size = q at *
  go_wp2_with (first
    | (go_at_call 19; refine (never_calls none 0 0 (0, false) _).mono ?_; rintro e w5 ⟨rfl, hb5⟩; have H5 := Lib.hid (H.out.below hb5); have hcz5 := hc4.out _ H5.out; clear hb5)
    | (go_at_call 12; refine (right16_calls (hR.out.up H5.out.kt.bel) hl).mono ?_; rintro e w7 ⟨rfl, hb7⟩; rw [hv.out]; have H7 := Lib.hid (H5.out.below hb7); have hcz7 := hc4.out _ H7.out; clear hb7)
    | (go_at_call 16; (with_reducible refine (ZT.out _ H7.out).mono ?_); rintro e w6 ⟨rfl, hb6⟩; have H6 := Lib.hid ((H7.out).below hb6); clear hb6))
  go_ret
  exact ⟨rfl, H6.out.kt.bel⟩
set_option maxRecDepth 100000 in
set_option maxHeartbeats 4000000 in
theorem compiles_ok (A0 : Option Addr) (c0 : Nat) (R : List Ru) (w : World) (hR : RuRow w w.heap.size A0 R) (hr : rightL R = true) :
    Calls Try.prog 5 #[.slice A0 R.length c0] w fun e w' => e = .returned (.bool true) ∧ Below w.heap.size w w' := by
  have rt : Rt R := ⟨(rightL_parts hr).1, (rightL_parts hr).2⟩
  have h16 := rt.len
  have h20 : R.length ≤ 20 := by omega
  have hv := Lib.hid (rightV_yes hr)
  have RT := Lib.hid rt
  clear hr rt
  have q1 : decide ((20 : Int) < (R.length : Int)) = false := decide_eq_false (by omega)
  have hl : R.length ≤ maxLen := Nat.le_trans h20 (by decide)
  have G := Lib.hid (mkM_good five (Nat.le_refl _) (by decide))
  replace hR := Lib.hid hR
  go_enter Try.func5, Try.ntmps5
  go_upto_region 5 with (go_at_call 11; refine (awake_calls _).mono ?_; rintro e w1 ⟨rfl, hb1⟩; replace hb1 := Lib.hid hb1)
  have q2 : decide ((16 : Int) < (R.length : Int)) = false := decide_eq_false (by omega)
  go_upto_region 6 with (go_at_call 14; refine (comp_lw hR.out RT.out hb1.out).mono ?_; rintro e w3 ⟨A, c, ks, rfl, hk3, hm3, hb3⟩; replace hb3 := Lib.hid hb3; replace hk3 := Lib.hid hk3; replace hm3 := Lib.hid hm3)
  have X3 := Lib.hid (below_alloc (Below.refl w3.heap.size w3) (.cells #[.slice A ks.length c, .int .i64 (neverF R).1, .bool (neverF R).2] 32))
  have X4 := Lib.hid (below_alloc (Below.refl (w3.alloc (.cells #[.slice A ks.length c, .int .i64 (neverF R).1, .bool (neverF R).2] 32)).heap.size (w3.alloc (.cells #[.slice A ks.length c, .int .i64 (neverF R).1, .bool (neverF R).2] 32))) (.cells #[.int .u8 5] 5))
  have hf := Lib.hid (reads_one (heap_alloc_new (w3.alloc (.cells #[.slice A ks.length c, .int .i64 (neverF R).1, .bool (neverF R).2] 32)) (.cells #[.int .u8 5] 5)))
  have C5 : Hid (Calls Try.prog 15 #[.slice (some ⟨(w3.alloc (.cells #[.slice A ks.length c, .int .i64 (neverF R).1, .bool (neverF R).2] 32)).heap.size, 0, none⟩) 1 1, .int .u64 0, .int .u64 0] ((w3.alloc (.cells #[.slice A ks.length c, .int .i64 (neverF R).1, .bool (neverF R).2] 32)).alloc (.cells #[.int .u8 5] 5)) _) := Lib.hid (made_calls (L := [5]) (cs := 1) hf.out (by simp) five (by decide))
  rw [World.size_alloc] at C5
  go_upto_region 7 with (go_at_call 15; (with_reducible refine C5.out.mono ?_); rintro e w4 ⟨b, gx, rfl, ⟨base, A4, c4, hl1, hl2, hl3, ht4⟩, hx4, hb4⟩; have hl1' := Nat.le_trans X4.out.size hl1; have hl2' := Nat.le_trans X4.out.size hl2; have hb4' := X4.out.trans (hb4.mono X4.out.size); have H := Lib.hid (lw_mk RT.out hb1.out hk3.out hm3.out hb3.out hl1' hl2' hl3 ⟨_, _, ht4⟩ hb4'); clear hl1 hl2 hl3 ht4 hx4 hb4 hl1' hl2' hb4')
  have hc4 := H.out.cells
  clear hb3 hk3 hm3 X3 X4 hf C5
  generalize w3.heap.size = q at *
  go_wp2_with (first
    | (go_at_call 19; refine (never_calls A ks.length c (neverF R) _).mono ?_; rintro e w5 ⟨rfl, hb5⟩; have H5 := Lib.hid (H.out.below hb5); clear hb5)
    | (go_at_call 12; refine (right16_calls (hR.out.up H5.out.kt.bel) hl).mono ?_; rintro e w7 ⟨rfl, hb7⟩; rw [hv.out]; have H7 := Lib.hid (H5.out.below hb7); clear hb7)
    | (go_at_call 20; refine (rnever_calls (hR.out.up H7.out.kt.bel) hl).mono ?_; rintro e w8 ⟨rfl, rfl⟩))
  go_ret
  exact ⟨rfl, H7.out.kt.bel⟩
theorem compiles_any (A0 : Option Addr) (c0 : Nat) (R : List Ru) (w : World) (hR : Kd.C kRu w A0 R.length R) :
    Calls Try.prog 5 #[.slice A0 R.length c0] w fun e w' => e = .returned (.bool true) ∧ Below w.heap.size w w' := by
  by_cases h20 : 20 < R.length
  · exact compiles_skip A0 R.length c0 w h20
  · by_cases h16 : 16 < R.length
    · exact compiles_full A0 c0 R w (ru_row hR) (by omega) h16
    · cases hr : R.all rightB with
      | false => exact compiles_form A0 c0 R w (ru_row hR) (by omega) hr
      | true => exact compiles_ok A0 c0 R w (ru_row hR) (by unfold rightL; rw [hr, decide_eq_true (by omega)]; rfl)
end Go.Proofs.Ytonlbeonblpblaa.All
