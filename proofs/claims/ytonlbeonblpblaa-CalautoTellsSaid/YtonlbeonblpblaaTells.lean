/-
  The law CalautoTells tells true of every input. No condition.
-/
import Derived.Test.YtonlbeonblpblaaDocM
import Derived.Test.YtonlbeonblpblaaEnds
namespace Go.Proofs.Ytonlbeonblpblaa.All
open Go.RowKit Go.Proofs.YtonlbeonblpblaaW.PrintWords Go.Proofs.YtonlbeonblpblaaW.PrintLast Go.Proofs.YtonlbeonblpblaaW.PrintMore Go.Proofs.Ytonlbeonblpblaa.Wd
set_option linter.unusedVariables false
set_option linter.unusedSimpArgs false
private theorem ym (motive : Option Value → Sort _) (h1 : (b : Bool) → motive (some (.bool b))) (h2 : (x : Option Value) → motive x) : Go.yielded.match_1 motive (some undef) h1 h2 = h2 (some undef) := rfl
attribute [local go_sem, local simp] ym
theorem rmins_calls {M : List It} (gd : Good M) (mu : Mu M) {g : Nat} {w : World} (h : XT w g M) (num : Int) {R : List Ru} (rt : Rt R) {A0 : Option Addr} {c0 : Nat} (hR : RuRow w w.heap.size A0 R) :
    Calls Try.prog 21 #[.slice A0 R.length c0, .pointer (some ⟨g, 0, none⟩), .int .u64 num] w fun e w' => ∃ v, e = .returned v ∧ w'.ownsRow w.heap.size 3 1 v (mn R M num).length ((mn R M num).map (Value.int .i64)) ∧ Below w.heap.size w w' := by
  cases hh : hit M num with
  | true => exact rmins_some gd mu h hh rt hR
  | false => exact rmins_none gd h hh R A0 c0
theorem last_take {xs : List Int} {i : Nat} (h : i < xs.length) : (xs.take (i + 1)).getLastD 0 = xs[i] := by
  rw [last_get _ (by rw [List.length_take]; omega)]
  simp only [List.length_take, List.getElem_take]
  congr 1
  omega
set_option maxRecDepth 100000 in
set_option maxHeartbeats 2000000 in
theorem rtill_calls {M : List It} (gd : Good M) (mu : Mu M) {g : Nat} {w : World} (h : XT w g M) (num : Int) {R : List Ru} (rt : Rt R) {A0 : Option Addr} {c0 : Nat} (hR : RuRow w w.heap.size A0 R) :
    Calls Try.prog 22 #[.slice A0 R.length c0, .pointer (some ⟨g, 0, none⟩), .int .u64 num] w fun e w' => e = .returned (.int .i64 (tl R M num)) ∧ Below w.heap.size w w' := by
  have MC := Lib.hid (rmins_calls gd mu h num rt (c0 := c0) hR)
  have e1 := Lib.hid (show tl R M num = (mn R M num).getLastD 0 from rfl)
  have hml : (mn R M num).length ≤ 16 := Nat.le_trans (mins_len _ _ _ _) (Nat.le_trans (List.length_filter_le _ _) rt.len)
  clear hR h gd mu rt
  generalize mn R M num = xs at *
  go_enter Try.func22, Try.ntmps22
  go_upto_region 3 with (go_at_call 21; (with_reducible refine MC.out.mono ?_); rintro e w3 ⟨v3, rfl, ho3, hb3⟩; obtain ⟨A3, c3, rfl, hc3⟩ := own_slice_cap ho3; replace ho3 := Lib.hid ho3; replace hb3 := Lib.hid hb3)
  go_wp2
  go_loop [7, 9] (fun v7 v9 => ∃ i : Nat, v9 = .int .i64 i ∧ i ≤ xs.length ∧ v7 = .int .i64 ((xs.take i).getLastD 0)) (fun _ v9 => xs.length - (intOf v9).toNat)
  case atStart => exact ⟨0, rfl, Nat.zero_le _, rfl⟩
  case round =>
    obtain ⟨i, rfl, hi, rfl⟩ := hrel
    by_cases hlt : i < xs.length
    · obtain ⟨q, rfl, hcell⟩ := own_cell ho3.out hlt
      have d1 : IntKind.i64.wrap ((i : Int) + 1) = (i : Int) + 1 := IntWalk.i64_in _ (by omega)
      have q3 : (i : Int) < (xs.length : Int) := by omega
      have HL := Lib.hid (last_take hlt)
      have hi1 := Lib.hid (show i + 1 ≤ xs.length from hlt)
      have hme := Lib.hid (show xs.length - (i + 1) < xs.length - i by omega)
      generalize xs[i] = y at *
      go_wp2
      go_round
      case rel => exact ⟨i + 1, by go_num, hi1.out, by rw [HL.out]⟩
      case measure => simp [intOf]; have := hme.out; omega
    · obtain rfl : i = xs.length := by omega
      rw [List.take_length]
      have e2 := e1.out
      rw [← e2]
      go_wp2
      go_ret
      exact ⟨rfl, hb3.out⟩
set_option maxRecDepth 100000 in
set_option maxHeartbeats 4000000 in
theorem tells_skip (A0 P : Option Addr) (c0 cs n : Nat) (R : List Ru) (out gone num now : Int) (w : World) (hR : RuRow w w.heap.size A0 R) (hl : R.length ≤ maxLen) (h : 30 < n ∨ rightL R = false) :
    Calls Try.prog 6 #[.slice A0 R.length c0, .slice P n cs, .int .u64 out, .int .u64 gone, .int .u64 num, .int .i64 now] w fun e w' => e = .returned (.bool true) ∧ Below w.heap.size w w' := by
  replace hR := Lib.hid hR
  by_cases h30 : 30 < n
  · have q1 : decide ((30 : Int) < (n : Int)) = true := decide_eq_true (by omega)
    go_enter Try.func6, Try.ntmps6
    go_wp2_with (go_at_call 11; refine (awake_calls _).mono ?_; rintro e w1 ⟨rfl, hb1⟩; replace hb1 := Lib.hid hb1)
    go_ret
    exact ⟨rfl, hb1.out⟩
  · have q1 : decide ((30 : Int) < (n : Int)) = false := decide_eq_false (by omega)
    have hv := Lib.hid (rightV_no (h.resolve_left h30))
    clear h
    go_enter Try.func6, Try.ntmps6
    go_wp2_with (first
      | (go_at_call 11; refine (awake_calls _).mono ?_; rintro e w1 ⟨rfl, hb1⟩; replace hb1 := Lib.hid hb1)
      | (go_at_call 12; refine (right16_calls (hR.out.up hb1.out) hl).mono ?_; rintro e w2 ⟨rfl, hb2⟩; rw [hv.out]; replace hb2 := Lib.hid (hb1.out.trans (hb2.mono hb1.out.size))))
    go_ret
    exact ⟨rfl, hb2.out⟩
/-- What the law keeps: the calendar, both tables, the rules that came in. -/
structure TW (w wr : World) (R : List Ru) (M : List It) (base b kb q : Nat) (A : Option Addr) (c : Nat) (ks : List (Ru × Nat)) (g : Nat) (A0 : Option Addr) : Prop where
  lw : LW w wr R M base b kb q A c ks
  x : XT wr g M
  r : RuRow wr wr.heap.size A0 R
section
variable {w wr w2 : World} {R : List Ru} {M : List It} {base b kb q : Nat} {A : Option Addr} {c : Nat} {ks : List (Ru × Nat)} {g : Nat} {A0 : Option Addr}
theorem TW.below (h : TW w wr R M base b kb q A c ks g A0) (hb : Below wr.heap.size wr w2) : TW w w2 R M base b kb q A c ks g A0 :=
  ⟨h.lw.below hb, h.x.below hb, h.r.up hb⟩
end
set_option maxRecDepth 100000 in
set_option maxHeartbeats 4000000 in
theorem tells_in (A0 P : Option Addr) (c0 cs : Nat) (R : List Ru) (L : List Int) (out gone num now : Int) (w : World) (hR : RuRow w w.heap.size A0 R) (hr : rightL R = true) (hS : Reads w w.heap.size 1 P L.length (L.map (Value.int .u8))) (hs : Steps L) (h30 : L.length ≤ 30) (ho : 0 ≤ out ∧ out < 18446744073709551616) (hg : 0 ≤ gone ∧ gone < 18446744073709551616) :
    Calls Try.prog 6 #[.slice A0 R.length c0, .slice P L.length cs, .int .u64 out, .int .u64 gone, .int .u64 num, .int .i64 now] w fun e w' => e = .returned (.bool true) ∧ Below w.heap.size w w' := by
  have rt : Rt R := ⟨(rightL_parts hr).1, (rightL_parts hr).2⟩
  have hl : R.length ≤ maxLen := Nat.le_trans rt.len (by decide)
  have hv := Lib.hid (rightV_yes hr)
  have q1 : decide ((30 : Int) < (L.length : Int)) = false := decide_eq_false (by omega)
  have RT := Lib.hid rt
  replace hR := Lib.hid hR
  replace hS := Lib.hid hS
  replace hs := Lib.hid hs
  replace ho := Lib.hid ho
  replace hg := Lib.hid hg
  clear hr rt
  go_enter Try.func6, Try.ntmps6
  go_upto_region 5 with (first
      | (go_at_call 11; refine (awake_calls _).mono ?_; rintro e w1 ⟨rfl, hb1⟩; replace hb1 := Lib.hid hb1)
      | (go_at_call 12; refine (right16_calls (hR.out.up hb1.out) hl).mono ?_; rintro e w2 ⟨rfl, hb2⟩; rw [hv.out]; replace hb2 := Lib.hid (hb1.out.trans (hb2.mono hb1.out.size))))
  go_upto_region 6 with (go_at_call 14; refine (comp_lw hR.out RT.out hb2.out).mono ?_; rintro e w3 ⟨A, c, ks, rfl, hk3, hm3, hb3⟩; replace hb3 := Lib.hid hb3; replace hk3 := Lib.hid hk3; replace hm3 := Lib.hid hm3)
  have XB := Lib.hid (fun (w4 : World) (h : Below w3.heap.size w3 w4) => (hb2.out.trans (hb3.out.mono hb2.out.size)).trans (h.mono (Nat.le_trans hb2.out.size hb3.out.size)))
  have XL := Lib.hid (fun (w4 : World) (h : Below w3.heap.size w3 w4) => (XB.out w4 h).size)
  go_upto_region 7 with (go_at_call 15; (with_reducible refine (madeo_calls (B := w.heap.size) (hS.out.below (XB.out _ (below_alloc (Below.refl _ _) _))) (XL.out _ (below_alloc (Below.refl _ _) _)) hs.out h30 out gone ho.out hg.out).mono ?_); rintro e w4 ⟨gx, M, rfl, h4⟩; have H := Lib.hid (show TW w w4 R M _ _ _ _ A c ks gx A0 from ⟨lw_mk RT.out hb2.out hk3.out hm3.out hb3.out (Nat.le_refl _) (Nat.le_refl _) h4.bel.size h4.t h4.bel, h4.x, hR.out.up (XB.out _ ((below_alloc (Below.refl _ _) _).trans (h4.bel.mono (by simp))))⟩); have G := Lib.hid (And.intro h4.good h4.mu); clear h4)
  clear hb3 hk3 hm3 XB XL hb1 hb2 hR hS hs hv ho hg
  rw [World.size_alloc] at H
  generalize w3.heap.size = q at *
  obtain ⟨b, hbb⟩ : ∃ b, q + 1 = b := ⟨_, rfl⟩
  rw [hbb] at H ⊢
  clear hbb
  generalize w2.heap.size = kb at *
  have hc4 := H.out.lw.cells
  go_region_held3 (fun w' => w'.cell? { block := q, off := 0 } = some (.slice A ks.length c) ∧ w'.cell? { block := q, off := 1 } = some (.int .i64 (neverF R).1) ∧ w'.cell? { block := q, off := 2 } = some (.bool (neverF R).2)) (first | exact hc4 | exact hc5 | exact hc6 | exact hc7)
    ((first
      | (go_at_call 16
         (with_reducible refine ((H.out.below (below_drew (Below.refl _ _))).lw.till G.out.1 num).mono ?_)
         rintro e w5 ⟨rfl, hb5⟩
         have H5 := Lib.hid (H.out.below ((below_drew (Below.refl _ _)).trans hb5))
         have hc5 := H5.out.lw.cells
         clear hb5)
      | (go_at_call 18
         (with_reducible refine (H5.out.lw.mins G.out.1 num).mono ?_)
         rintro e w6 ⟨v6, rfl, ho6, hb6⟩
         have H6 := Lib.hid (H5.out.below hb6)
         have hc6 := H6.out.lw.cells
         replace ho6 := Lib.hid ho6
         clear hb6)
      | (go_at_call 21
         (with_reducible refine (rmins_calls G.out.1 G.out.2 H6.out.x num RT.out H6.out.r).mono ?_)
         rintro e w7 ⟨v7, rfl, ho7, hb7⟩
         have H7 := Lib.hid (H6.out.below hb7)
         have hc7 := H7.out.lw.cells
         have ho67 := Lib.hid (own_below ho6.out hb7)
         replace ho7 := Lib.hid ho7
         clear hb7)))
  clear H H5 H6 ho6 hc4 hc5 hc6
  obtain ⟨A6, c6, rfl, hcc6⟩ := own_slice_cap ho67.out
  obtain ⟨A7, c7, rfl, hcc7⟩ := own_slice_cap ho7.out
  have hml : (mn R M num).length ≤ 16 := Nat.le_trans (mins_len _ _ _ _) (Nat.le_trans (List.length_filter_le _ _) RT.out.len)
  have TC := Lib.hid (fun (w8 : World) (h : TW w w8 R M b b kb q A c ks gx A0) => (rtill_calls G.out.1 G.out.2 h.x num RT.out (c0 := c0) h.r : Calls Try.prog 22 #[.slice A0 R.length c0, .pointer (some ⟨gx, 0, none⟩), .int .u64 num] w8 fun e w' => e = .returned (.int .i64 (tl R M num)) ∧ Below w8.heap.size w8 w'))
  have SC := fun (w8 : World) (h : TW w w8 R M b b kb q A c ks gx A0) => h.lw.stays G.out.1 num now
  have FC := fun (w8 : World) (h : TW w w8 R M b b kb q A c ks gx A0) => h.x.find G.out.1 num
  have hsy : sy R M num now = (hit M num && decide (now < tl R M num)) := rfl
  have hfd : findD M num = if hit M num = true then (lb M num : Int) else -1 := rfl
  generalize sy R M num now = sv at *
  generalize findD M num = fv at *
  have OB6 := Lib.hid (fun (w8 : World) (hb : Below w7.heap.size w7 w8) => own_below ho67.out hb)
  have OB7 := Lib.hid (fun (w8 : World) (hb : Below w7.heap.size w7 w8) => own_below ho7.out hb)
  generalize tl R M num = t at *
  generalize mn R M num = xs at *
  have HS : Hid ((now < t ∧ hit M num = true ∧ sv = true ∧ 0 ≤ fv) ∨ (now < t ∧ sv = false ∧ fv < 0) ∨ (¬ now < t ∧ sv = false)) := Lib.hid (by
    rw [hsy, hfd]
    by_cases e : now < t
    · cases hh : hit M num with
      | true => exact .inl ⟨e, rfl, by rw [decide_eq_true e]; rfl, by rw [if_pos rfl]; omega⟩
      | false => exact .inr (.inl ⟨e, rfl, by rw [if_neg (by decide)]; decide⟩)
    · exact .inr (.inr ⟨e, by rw [decide_eq_false e, Bool.and_false]⟩))
  clear hsy hfd
  replace SC := Lib.hid SC
  replace FC := Lib.hid FC
  have HF := Lib.hid (show True from trivial)
  rcases HS.out with ⟨hq, _, rfl, hv⟩ | ⟨hq, rfl, hv⟩ | ⟨hq, rfl⟩
  all_goals
    clear HS
    try have hq1 := decide_eq_true hq
    try have hq1 := decide_eq_false hq
    try have hq2 := decide_eq_true hv
    try have hq2 : decide ((0 : Int) ≤ fv) = false := decide_eq_false (by omega)
    go_upto_region 10 with (first
      | (go_at_call 22; (with_reducible refine (TC.out _ H7.out).mono ?_); rintro e w8 ⟨rfl, hb8⟩; have H8 := Lib.hid (H7.out.below hb8); have hc8 := H8.out.lw.cells; replace hb8 := Lib.hid hb8; clear TC)
      | (go_at_call 23; (with_reducible refine (SC.out _ H8.out).mono ?_); rintro e w9 ⟨rfl, hb9⟩; have H9 := Lib.hid (H8.out.below hb9); replace hb9 := Lib.hid (hb8.out.trans (hb9.mono hb8.out.size)); clear SC)
      | (go_at_call 24; (with_reducible refine (FC.out _ H9.out).mono ?_); rintro e w9' ⟨rfl, rfl⟩; clear FC))
    have O6 := Lib.hid (OB6.out _ hb9.out)
    have O7 := Lib.hid (OB7.out _ hb9.out)
    have HB := Lib.hid H9.out.lw.kt.bel
    clear H7 H8 H9 hc7 hc8 hb8 hb9 OB6 OB7 ho67 ho7
    go_wp2
    go_loopw [20] (fun v20 wr => ∃ i : Nat, v20 = .int .i64 i ∧ i ≤ xs.length ∧ Hid (Below w9.heap.size w9 wr)) (fun v20 _ => xs.length - (intOf v20).toNat)
    case atStart => exact ⟨0, rfl, Nat.zero_le _, Lib.hid (Below.refl _ _)⟩
    case round =>
      obtain ⟨i, rfl, hi, HW⟩ := hrel
      by_cases hlt : i < xs.length
      · obtain ⟨q6, hA6, hcell6⟩ := own_cell (own_below O6.out HW.out) hlt
        obtain ⟨q7, hA7, hcell7⟩ := own_cell (own_below O7.out HW.out) hlt
        subst hA6 hA7
        have d1 : IntKind.i64.wrap ((i : Int) + 1) = (i : Int) + 1 := IntWalk.i64_in _ (by omega)
        have q3 : (i : Int) < (xs.length : Int) := by omega
        have hi1 := Lib.hid (show i + 1 ≤ xs.length from hlt)
        have hme := Lib.hid (show xs.length - (i + 1) < xs.length - i by omega)
        generalize xs[i] = y at *
        go_upto_region 13 with fail
        go_quiet (fail)
        go_wp2
        go_roundw
        case rel => exact ⟨i + 1, by go_num, hi1.out, Lib.hid (pw_below_drewN HW.out _)⟩
        case measure => simp [intOf]; have := hme.out; omega
      · obtain rfl : i = xs.length := by omega
        go_wp2
        go_ret
        exact ⟨rfl, HB.out.trans (HW.out.mono HB.out.size)⟩
theorem wf_u64 {n : Int} (h : (Lit.int .u64 n).wf = true) : 0 ≤ n ∧ n < 18446744073709551616 := by
  have h1 : IntKind.u64.min = 0 := rfl
  have h2 : IntKind.u64.max = 18446744073709551615 := rfl
  simp [Lit.wf] at h
  omega
theorem tells_any (A0 : Option Addr) (c0 : Nat) (R : List Ru) (P : Option Addr) (cs : Nat) (L : List Int) (out gone num now : Int) (w : World) (hR : Kd.C kRu w A0 R.length R) (hl : R.length ≤ maxLen) (hS : Kd.C (Kd.int .u8) w P L.length L) (hw : ∀ a ∈ L, (Lit.int .u8 a).wf = true) (ho : (Lit.int .u64 out).wf = true) (hg : (Lit.int .u64 gone).wf = true) :
    Calls Try.prog 6 #[.slice A0 R.length c0, .slice P L.length cs, .int .u64 out, .int .u64 gone, .int .u64 num, .int .i64 now] w fun e w' => e = .returned (.bool true) ∧ Below w.heap.size w w' := by
  by_cases h30 : L.length ≤ 30
  · cases hr : rightL R with
    | true => exact tells_in A0 P c0 cs R L out gone num now w (ru_row hR) hr (steps_came hS) (steps_wf hw) h30 (wf_u64 ho) (wf_u64 hg)
    | false => exact tells_skip A0 P c0 cs L.length R out gone num now w (ru_row hR) hl (.inr hr)
  · exact tells_skip A0 P c0 cs L.length R out gone num now w (ru_row hR) hl (.inl (by omega))
end Go.Proofs.Ytonlbeonblpblaa.All
