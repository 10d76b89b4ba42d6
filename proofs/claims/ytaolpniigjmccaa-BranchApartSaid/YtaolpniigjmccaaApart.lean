/-
  The law BranchApart's walk: it tells true of every input. Condition: the arguments read as Go's data do.
-/
import Derived.Test.YtaolpniigjmccaaKeep
namespace Go.Proofs.Ytaolpniigjmccaa.All
open Go.RowKit Go.Proofs.YtaolpniigjmccaaW.PrintWords Go.Proofs.YtaolpniigjmccaaW.PrintLast Go.Proofs.YtaolpniigjmccaaW.PrintMore Go.Proofs.Ytaolpniigjmccaa.Wd
set_option linter.unusedVariables false
set_option linter.unusedSimpArgs false

set_option maxRecDepth 100000 in
set_option maxHeartbeats 2000000 in
theorem apart_calls (A0 : Option Addr) (c0 : Nat) (l : List Ac) (x : Ac) (id m : Int) (w : World) (hr : Kd.C kAc w A0 l.length l) (hwf : ∀ a ∈ l, ActWf a) (hx : ActWf x) (hm : 0 ≤ m)
   (hl30 : l.length ≤ 30) (hne : id ≠ x.id) :
    Calls Try.prog 3 #[.slice A0 l.length c0, .agg #[.bool x.d, .int .i64 x.id, .int .i64 x.p, .int .u64 x.b, .int .u64 x.n], .int .i64 id, .int .u64 m] w fun e w' => e = .returned (.bool true) ∧ Below w.heap.size w w' := by
  have HR := Lib.hid hr
  have HNE := Lib.hid hne
  have HWF := Lib.hid hwf
  clear hr hwf
  have hxe : (id == x.id) = false := by simpa using hne
  have hll : ¬ (30 < l.length) := by omega
  have hdl : decide ((30 : Int) < (l.length : Int)) = false := decide_eq_false (by omega)
  clear hne
  go_enter Try.func3, Try.ntmps3
  go_upto_region 5 with (first
    | (go_at_call 10; refine (awake_calls _).mono ?_; rintro e w1 ⟨rfl, hb1⟩; have hg1 := (show Arg _ _ x from heap_alloc_new w _).below hb1; obtain ⟨p0, p1, p2, p3, p4⟩ := hg1.cells; replace hg1 := Lib.hid hg1; replace hb1 := Lib.hid hb1))
  clear p0 p1 p2 p3 p4
  have hB1 := Lib.hid (below_alloc (Below.refl _ w) _ |>.trans (hb1.out.mono (Below.alloc (Below.refl _ _) (Nat.le_refl _) _).size))
  clear hb1
  obtain ⟨g0, hg0⟩ : ∃ g, w.heap.size = g := ⟨_, rfl⟩
  have HG0 := Lib.hid (show g0 < w1.heap.size by have := hg1.out.lt; omega)
  have HGL := Lib.hid (show w.heap.size ≤ g0 by omega)
  rw [hg0] at hg1
  rw [hg0]
  clear hg0
  go_upto_region 6 with (go_at_call 11; refine (new_calls _).mono ?_; rintro e w2 ⟨rfl, hA2, hb2⟩; have HI := Lib.hid (Inv.mk hA2 (hB1.out.trans (hb2.mono hB1.out.size)) hB1.out.size); have HX := Lib.hid (hg1.out.below hb2); clear hA2 hb2)
  clear hB1 hg1
  obtain ⟨g, hg⟩ : ∃ g, w1.heap.size = g := ⟨_, rfl⟩
  rw [hg] at HG0 HI
  rw [hg]
  clear hg
  go_wp2
  go_loopw [10] (fun v10 wr => ∃ k : Nat, v10 = .int .i64 k ∧ k ≤ l.length ∧ Hid (Inv w wr g (playF newF (l.take k))) ∧ Hid (Arg wr g0 x)) (fun v10 _ => l.length - (intOf v10).toNat)
  case atStart => exact ⟨0, rfl, Nat.zero_le _, HI, HX⟩
  case round =>
    clear HI HX
    obtain ⟨k, rfl, hk, HI, HX⟩ := hrel
    by_cases hlt : k < l.length
    · obtain ⟨ad, rfl, hA⟩ := act_at HR.out HI.out.bel hlt
      obtain ⟨c0, c1, c2, c3, c4⟩ := hA
      have HP := Lib.hid (play_take hlt newF)
      have hk1 := Lib.hid (show k + 1 ≤ l.length by omega)
      generalize playF newF (l.take k) = F at *
      generalize l[k] = y at *
      cases hd : y.d with
      | true =>
        rw [hd] at c0
        replace hd := Lib.hid hd
        clear c2 c3 c4
        go_wp2_with (go_at_call 12; refine (drop_act HI.out.here hd.out).mono ?_; rintro e w3 ⟨rfl, hA3, hc3⟩; replace hA3 := Lib.hid (HI.out.chg hc3 hA3); replace hc3 := Lib.hid (HX.out.chg hc3 (Nat.ne_of_lt HG0.out)))
        go_roundw
        case rel => exact ⟨k + 1, by go_num, hk1.out, by rw [HP.out]; exact hA3, hc3⟩
        case measure => simp [intOf]; omega
      | false =>
        rw [hd] at c0
        replace hd := Lib.hid hd
        go_upto_region 11 with fail
        go_still_tail 21, (by kernel_rfl)
        change wpList _ _ _ _ _ wr.drew
        replace HI := Lib.hid (HI.out.below (below_drew (Below.refl _ _)))
        replace HX := Lib.hid (HX.out.below (below_drew (Below.refl _ _)))
        generalize wr.drew = wd at *
        clear c0 c1 c2 c3 c4
        go_wp2_with (go_at_call 13; refine (fork_act HI.out.here hd.out).mono ?_; rintro e w3 ⟨rfl, hA3, hc3⟩; replace hA3 := Lib.hid (HI.out.chg hc3 hA3); replace hc3 := Lib.hid (HX.out.chg hc3 (Nat.ne_of_lt HG0.out)))
        go_roundw
        case rel => exact ⟨k + 1, by go_num, hk1.out, by rw [HP.out]; exact hA3, hc3⟩
        case measure => simp [intOf]; omega
    · have hkl : k = l.length := by omega
      subst hkl
      have OK := Lib.hid (ok_take (fun a ha => (wf_u64 (HWF.out a ha).2.2.2.2).2) l.length)
      clear HR HWF
      generalize playF newF (l.take l.length) = F at *
      have hx' := Lib.hid hx
      clear hx
      go_upto_region 14 with (go_at_call 14; refine (line_calls HI.out.here OK.out).mono ?_; rintro e w3 ⟨A, cap, rfl, hR3, hb3⟩; replace HI := Lib.hid (HI.out.below hb3); replace HX := Lib.hid (HX.out.below hb3); replace hR3 := Lib.hid hR3; clear hb3)
      have HT : Hid (thr (lineL F id m) x.id (lineL F id m).length = true → dropC F x.id ≠ 0) := fun h => thr_drop OK.out HNE.out h
      have HL2 := Lib.hid (act_lineL OK.out x HNE.out m)
      have OK2 := Lib.hid (ok_act OK.out (a := x) (wf_u64 hx'.out.2.2.2.2).2)
      have hLL := lineL_len OK.out id m
      generalize lineL F id m = L at *
      generalize lineE F id m = E at *
      go_wp2
      go_loopw [13, 14] (fun v13 v14 wr => ∃ k : Nat, v14 = .int .i64 k ∧ k ≤ L.length ∧ v13 = .bool (thr L x.id k) ∧ Hid (Inv w wr g F) ∧ Hid (Arg wr g0 x) ∧ Hid (Rd g wr A L)) (fun _ v14 _ => L.length - (intOf v14).toNat)
      case atStart => exact ⟨0, rfl, Nat.zero_le _, rfl, HI, HX, hR3⟩
      case round =>
        clear HI HX hR3
        obtain ⟨k, rfl, hk, rfl, HI, HX, hR3⟩ := hrel
        obtain ⟨q0, q1, q2, q3, q4⟩ := HX.out.cells
        by_cases hlt : k < L.length
        · obtain ⟨blk, rfl, e0, e1, e2⟩ := hR3.out.cell hlt
          have HS := Lib.hid (thr_succ (x := x.id) hlt)
          have hk1 := Lib.hid (show k + 1 ≤ L.length by omega)
          cases ht : thr L x.id k with
          | true =>
            rw [ht] at HS
            go_upto_region 17 with fail
            go_quiet (fail)
            go_wp2
            go_roundw
            case rel => exact ⟨k + 1, by go_num, hk1.out, by rw [HS.out]; rfl, Lib.hid (HI.out.below (pw_below_drewN (Below.refl _ _) _)), Lib.hid (HX.out.below (pw_below_drewN (Below.refl _ _) _)), Lib.hid (hR3.out.below (pw_below_drewN (Below.refl _ _) _))⟩
            case measure => simp [intOf]; omega
          | false =>
            rw [ht] at HS
            go_upto_region 17 with fail
            go_quiet (fail)
            go_wp2
            go_roundw
            case rel => exact ⟨k + 1, by go_num, hk1.out, by rw [HS.out]; rfl, Lib.hid (HI.out.below (pw_below_drewN (Below.refl _ _) _)), Lib.hid (HX.out.below (pw_below_drewN (Below.refl _ _) _)), Lib.hid (hR3.out.below (pw_below_drewN (Below.refl _ _) _))⟩
            case measure => simp [intOf]; omega
        · have hkl : k = L.length := by omega
          subst hkl
          cases hd : x.d with
          | true =>
            rw [hd] at q0
            replace hd := Lib.hid hd
            cases ht : thr L x.id L.length with
            | true =>
              have hq : (dropC F x.id == 0) = false := by simpa using HT.out ht
              clear HT
              go_upto_region 23 with (go_at_call 12; refine (drop_act HI.out.here hd.out).mono ?_; rintro e w5 ⟨rfl, hA3, hc3⟩; replace hA3 := Lib.hid (HI.out.chg hc3 hA3); replace hR3 := Lib.hid (hR3.out.chg hc3))
              clear q0 q1 q2 q3 q4 HX HI
              have LC := line_calls (id := id) (m := m) hA3.out.here OK2.out
              rw [HL2.out.1, HL2.out.2] at LC
              replace LC := Lib.hid LC
              go_upto_region 24 with (go_at_call 14; refine LC.out.mono ?_; rintro e w6 ⟨A2, cap2, rfl, hR6, hb6⟩; replace hA3 := Lib.hid (hA3.out.below hb6); replace hR3 := Lib.hid (hR3.out.below hb6); replace hR6 := Lib.hid hR6; clear hb6)
              clear LC
              go_wp2
              go_loopw [18] (fun v18 wr => ∃ k : Nat, v18 = .int .i64 k ∧ k ≤ L.length ∧ Hid (Below w.heap.size w wr) ∧ Hid (Rd g wr A L) ∧ Hid (Rd g wr A2 L)) (fun v18 _ => L.length - (intOf v18).toNat)
              case atStart => exact ⟨0, rfl, Nat.zero_le _, hA3.out.bel, hR3, hR6⟩
              case round =>
                clear hR3 hR6
                obtain ⟨k, rfl, hk, HB, hR3, hR6⟩ := hrel
                by_cases hlt : k < L.length
                · obtain ⟨blk, rfl, e0, e1, e2⟩ := hR3.out.cell hlt
                  obtain ⟨blk2, rfl, f0, f1, f2⟩ := hR6.out.cell hlt
                  have hk1 := Lib.hid (show k + 1 ≤ L.length by omega)
                  go_upto_region 29 with fail
                  go_quiet (fail)
                  go_wp2
                  go_roundw
                  case rel => exact ⟨k + 1, by go_num, hk1.out, Lib.hid (pw_below_drewN HB.out _), Lib.hid (hR3.out.below (pw_below_drewN (Below.refl _ _) _)), Lib.hid (hR6.out.below (pw_below_drewN (Below.refl _ _) _))⟩
                  case measure => simp [intOf]; omega
                · go_wp2
                  go_ret
                  exact ⟨rfl, HB.out⟩
            | false =>
              go_upto_region 23 with (go_at_call 12; refine (drop_act HI.out.here hd.out).mono ?_; rintro e w5 ⟨rfl, hA3, hc3⟩; replace hA3 := Lib.hid (HI.out.chg hc3 hA3); replace hR3 := Lib.hid (hR3.out.chg hc3))
              clear q0 q1 q2 q3 q4 HX HI
              have LC := line_calls (id := id) (m := m) hA3.out.here OK2.out
              rw [HL2.out.1, HL2.out.2] at LC
              replace LC := Lib.hid LC
              go_upto_region 24 with (go_at_call 14; refine LC.out.mono ?_; rintro e w6 ⟨A2, cap2, rfl, hR6, hb6⟩; replace hA3 := Lib.hid (hA3.out.below hb6); replace hR3 := Lib.hid (hR3.out.below hb6); replace hR6 := Lib.hid hR6; clear hb6)
              clear LC
              go_wp2
              go_loopw [18] (fun v18 wr => ∃ k : Nat, v18 = .int .i64 k ∧ k ≤ L.length ∧ Hid (Below w.heap.size w wr) ∧ Hid (Rd g wr A L) ∧ Hid (Rd g wr A2 L)) (fun v18 _ => L.length - (intOf v18).toNat)
              case atStart => exact ⟨0, rfl, Nat.zero_le _, hA3.out.bel, hR3, hR6⟩
              case round =>
                clear hR3 hR6
                obtain ⟨k, rfl, hk, HB, hR3, hR6⟩ := hrel
                by_cases hlt : k < L.length
                · obtain ⟨blk, rfl, e0, e1, e2⟩ := hR3.out.cell hlt
                  obtain ⟨blk2, rfl, f0, f1, f2⟩ := hR6.out.cell hlt
                  have hk1 := Lib.hid (show k + 1 ≤ L.length by omega)
                  go_upto_region 29 with fail
                  go_quiet (fail)
                  go_wp2
                  go_roundw
                  case rel => exact ⟨k + 1, by go_num, hk1.out, Lib.hid (pw_below_drewN HB.out _), Lib.hid (hR3.out.below (pw_below_drewN (Below.refl _ _) _)), Lib.hid (hR6.out.below (pw_below_drewN (Below.refl _ _) _))⟩
                  case measure => simp [intOf]; omega
                · go_wp2
                  go_ret
                  exact ⟨rfl, HB.out⟩
          | false =>
            rw [hd] at q0
            replace hd := Lib.hid hd
            go_upto_region 23 with (go_at_call 13; refine (fork_act HI.out.here hd.out).mono ?_; rintro e w5 ⟨rfl, hA3, hc3⟩; replace hA3 := Lib.hid (HI.out.chg hc3 hA3); replace hR3 := Lib.hid (hR3.out.chg hc3))
            clear q0 q1 q2 q3 q4 HX HI
            have LC := line_calls (id := id) (m := m) hA3.out.here OK2.out
            rw [HL2.out.1, HL2.out.2] at LC
            replace LC := Lib.hid LC
            go_upto_region 24 with (go_at_call 14; refine LC.out.mono ?_; rintro e w6 ⟨A2, cap2, rfl, hR6, hb6⟩; replace hA3 := Lib.hid (hA3.out.below hb6); replace hR3 := Lib.hid (hR3.out.below hb6); replace hR6 := Lib.hid hR6; clear hb6)
            clear LC
            go_wp2
            go_loopw [18] (fun v18 wr => ∃ k : Nat, v18 = .int .i64 k ∧ k ≤ L.length ∧ Hid (Below w.heap.size w wr) ∧ Hid (Rd g wr A L) ∧ Hid (Rd g wr A2 L)) (fun v18 _ => L.length - (intOf v18).toNat)
            case atStart => exact ⟨0, rfl, Nat.zero_le _, hA3.out.bel, hR3, hR6⟩
            case round =>
              clear hR3 hR6
              obtain ⟨k, rfl, hk, HB, hR3, hR6⟩ := hrel
              by_cases hlt : k < L.length
              · obtain ⟨blk, rfl, e0, e1, e2⟩ := hR3.out.cell hlt
                obtain ⟨blk2, rfl, f0, f1, f2⟩ := hR6.out.cell hlt
                have hk1 := Lib.hid (show k + 1 ≤ L.length by omega)
                go_upto_region 29 with fail
                go_quiet (fail)
                go_wp2
                go_roundw
                case rel => exact ⟨k + 1, by go_num, hk1.out, Lib.hid (pw_below_drewN HB.out _), Lib.hid (hR3.out.below (pw_below_drewN (Below.refl _ _) _)), Lib.hid (hR6.out.below (pw_below_drewN (Below.refl _ _) _))⟩
                case measure => simp [intOf]; omega
              · go_wp2
                go_ret
                exact ⟨rfl, HB.out⟩

set_option maxRecDepth 100000 in
theorem apart_skip (A0 : Option Addr) (c0 : Nat) (n : Nat) (x : Ac) (id m : Int) (w : World) (h : 30 < n ∨ (n ≤ 30 ∧ id = x.id)) :
    Calls Try.prog 3 #[.slice A0 n c0, .agg #[.bool x.d, .int .i64 x.id, .int .i64 x.p, .int .u64 x.b, .int .u64 x.n], .int .i64 id, .int .u64 m] w fun e w' => e = .returned (.bool true) ∧ Below w.heap.size w w' := by
  rcases h with h | ⟨h, rfl⟩
  · go_enter Try.func3, Try.ntmps3
    go_wp2_with (go_at_call 10; refine (awake_calls _).mono ?_; rintro e w1 ⟨rfl, hb1⟩; have hB1 := Lib.hid (below_alloc (Below.refl _ w) _ |>.trans (hb1.mono (Below.alloc (Below.refl _ _) (Nat.le_refl _) _).size)); clear hb1)
    go_ret
    exact ⟨rfl, Hid.out ‹_›⟩
  · have hll : ¬ (30 < n) := by omega
    go_enter Try.func3, Try.ntmps3
    go_wp2_with (go_at_call 10; refine (awake_calls _).mono ?_; rintro e w1 ⟨rfl, hb1⟩; have hg1 := (show Arg _ _ x from heap_alloc_new w _).below hb1; obtain ⟨p0, p1, p2, p3, p4⟩ := hg1.cells; replace hg1 := Lib.hid hg1; have hB1 := Lib.hid (below_alloc (Below.refl _ w) _ |>.trans (hb1.mono (Below.alloc (Below.refl _ _) (Nat.le_refl _) _).size)); clear hb1)
    go_ret
    exact ⟨rfl, Hid.out ‹Hid (Below _ _ _)›⟩
theorem apart_any (A0 : Option Addr) (c0 : Nat) (l : List Ac) (x : Ac) (id m : Int) (w : World) (hr : Kd.C kAc w A0 l.length l) (hwf : ∀ a ∈ l, ActWf a) (hx : ActWf x) (hm : 0 ≤ m) :
    Calls Try.prog 3 #[.slice A0 l.length c0, .agg #[.bool x.d, .int .i64 x.id, .int .i64 x.p, .int .u64 x.b, .int .u64 x.n], .int .i64 id, .int .u64 m] w fun e w' => e = .returned (.bool true) ∧ Below w.heap.size w w' := by
  by_cases h : l.length ≤ 30
  · by_cases hid : id = x.id
    · exact apart_skip A0 c0 l.length x id m w (.inr ⟨h, hid⟩)
    · exact apart_calls A0 c0 l x id m w hr hwf hx hm h hid
  · exact apart_skip A0 c0 l.length x id m w (.inl (by omega))
end Go.Proofs.Ytaolpniigjmccaa.All
