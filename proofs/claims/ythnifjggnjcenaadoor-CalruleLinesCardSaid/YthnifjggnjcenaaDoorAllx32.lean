-- Printed by a program (wip/mkprint.sh over the kit's print.py) out of the translation; Lean checks it.
import Derived.Test.YthnifjggnjcenaaDoorAllx0
import Derived.Test.YthnifjggnjcenaaDoorAllx4
import Derived.Test.YthnifjggnjcenaaDoorAllx6
import Derived.Test.YthnifjggnjcenaaDoorText
namespace Go.Proofs.YthnifjggnjcenaaDoor.All
open Go.RowKit Go.Proofs.YthnifjggnjcenaaDoorW.PrintWords Go.Proofs.YthnifjggnjcenaaDoorW.PrintLast Go.Proofs.YthnifjggnjcenaaDoorW.PrintMore
attribute [local go_sem] max2_int min2_int max_two min_two max_three min_three max_four min_four   -- for this text's walks alone
set_option linter.unusedVariables false
set_option linter.unusedSimpArgs false

/-! ### erewhilelaw34_CalruleLines: function 10 -/
mutual
def erewhilelaw34_CalruleLines.j0 : Nat → List (S33) → Bool → Option (Bool)
  | 0, _, _ => none
  | k + 1, x0, x19 => if x19 = true then ((erewhilelaw34_awake.f k).bind fun t349 => (some t349)) else ((calrule_Text.f k x0).bind fun bt350 => (if bt350.2 = 0 then ((caltok_Lex.f k bt350.1).bind fun bt352 => (if bt352.2.2 = 0 then (erewhilelaw34_CalruleLines.l0 k x0 0 0 0 bt352.1 (bt352.1.length : Int) 0) else (some false))) else (some true)))
def erewhilelaw34_CalruleLines.l0 : Nat → List (S33) → Int → Int → Int → List (S46) → Int → Int → Option (Bool)
  | 0, _, _, _, _, _, _, _ => none
  | k + 1, x0, x8, x9, x10, x36, x37, x38 => if x38 < x37 then (if 0 ≤ x38 then (if x38 < (x36.length : Int) then (if ((rd_T46 x36 x38).f0) = 3 then (erewhilelaw34_CalruleLines.l0 k x0 (wrap64 (x8 + 1)) x9 x10 x36 x37 (wrap64 (x38 + 1))) else (if ((rd_T46 x36 x38).f0) = 2 then (erewhilelaw34_CalruleLines.l1 k x0 x8 x9 x10 x36 x37 x38 ((rd_T46 x36 x38).f0) ((rd_T46 x36 x38).f1) ((rd_T46 x36 x38).f2) ((rd_T46 x36 x38).f3)) else (erewhilelaw34_CalruleLines.l0 k x0 x8 x9 x10 x36 x37 (wrap64 (x38 + 1))))) else (none)) else (none)) else (if x8 = (x0.length : Int) then (if (x0.length : Int) = 0 then (some true) else (some (x10 == (wrap64 ((x0.length : Int) - 1))))) else (some false))
def erewhilelaw34_CalruleLines.l1 : Nat → List (S33) → Int → Int → Int → List (S46) → Int → Int → Int → ByteArray → Int → Int → Option (Bool)
  | 0, _, _, _, _, _, _, _, _, _, _, _ => none
  | k + 1, x0, x8, x9, x10, x36, x37, x38, x359000, x359001, x359002, x359003 => if x10 < (x0.length : Int) then (if 0 ≤ x10 then (if x9 = (wrap64 (1 + (mn ((rd_T33 x0 x10).f1) 1))) then (erewhilelaw34_CalruleLines.l1 k x0 x8 0 (wrap64 (x10 + 1)) x36 x37 x38 x359000 x359001 x359002 x359003) else (if x10 ≥ (x0.length : Int) then (some false) else (if x9 = 0 then (if ((rd_T33 x0 x10).f1) > 0 then (if x359002 = ((rd_T33 x0 x10).f1) then (if x9 = (mn ((rd_T33 x0 x10).f1) 1) then (if x359002 = ((rd_T33 x0 x10).f2) then (erewhilelaw34_CalruleLines.l0 k x0 x8 (wrap64 (x9 + 1)) x10 x36 x37 (wrap64 (x38 + 1))) else (some false)) else (erewhilelaw34_CalruleLines.l0 k x0 x8 (wrap64 (x9 + 1)) x10 x36 x37 (wrap64 (x38 + 1)))) else (some false)) else (if x9 = (mn ((rd_T33 x0 x10).f1) 1) then (if x359002 = ((rd_T33 x0 x10).f2) then (erewhilelaw34_CalruleLines.l0 k x0 x8 (wrap64 (x9 + 1)) x10 x36 x37 (wrap64 (x38 + 1))) else (some false)) else (erewhilelaw34_CalruleLines.l0 k x0 x8 (wrap64 (x9 + 1)) x10 x36 x37 (wrap64 (x38 + 1))))) else (if x9 = (mn ((rd_T33 x0 x10).f1) 1) then (if x359002 = ((rd_T33 x0 x10).f2) then (erewhilelaw34_CalruleLines.l0 k x0 x8 (wrap64 (x9 + 1)) x10 x36 x37 (wrap64 (x38 + 1))) else (some false)) else (erewhilelaw34_CalruleLines.l0 k x0 x8 (wrap64 (x9 + 1)) x10 x36 x37 (wrap64 (x38 + 1))))))) else (none)) else (if x10 ≥ (x0.length : Int) then (some false) else (if x9 = 0 then (if 0 ≤ x10 then (none) else (none)) else (if 0 ≤ x10 then (none) else (none))))
end
def erewhilelaw34_CalruleLines.f (k : Nat) (l0 : List (S33)) : Option (Bool) := (erewhilelaw34_awake.f k).bind fun t348 => (if t348 = true then (erewhilelaw34_CalruleLines.j0 k l0 (decide ((l0.length : Int) > 40))) else (erewhilelaw34_CalruleLines.j0 k l0 true))
theorem erewhilelaw34_CalruleLines.mono_l : ∀ k, (∀ y0 y1, LeO (erewhilelaw34_CalruleLines.j0 k y0 y1) (erewhilelaw34_CalruleLines.j0 (k + 1) y0 y1)) ∧ (∀ y0 y1 y2 y3 y4 y5 y6, LeO (erewhilelaw34_CalruleLines.l0 k y0 y1 y2 y3 y4 y5 y6) (erewhilelaw34_CalruleLines.l0 (k + 1) y0 y1 y2 y3 y4 y5 y6)) ∧ (∀ y0 y1 y2 y3 y4 y5 y6 y7 y8 y9 y10, LeO (erewhilelaw34_CalruleLines.l1 k y0 y1 y2 y3 y4 y5 y6 y7 y8 y9 y10) (erewhilelaw34_CalruleLines.l1 (k + 1) y0 y1 y2 y3 y4 y5 y6 y7 y8 y9 y10))
  | 0 => ⟨fun _ _ r h => by simp [erewhilelaw34_CalruleLines.j0] at h, fun _ _ _ _ _ _ _ r h => by simp [erewhilelaw34_CalruleLines.l0] at h, fun _ _ _ _ _ _ _ _ _ _ _ r h => by simp [erewhilelaw34_CalruleLines.l1] at h⟩
  | k + 1 => by
    obtain ⟨ih0, ih1, ih2⟩ := erewhilelaw34_CalruleLines.mono_l k
    refine ⟨?_, ?_, ?_⟩
    · intro y0 y1
      unfold erewhilelaw34_CalruleLines.j0
      repeat' first
      | (with_reducible exact ih0 _ _)
      | (with_reducible exact ih1 _ _ _ _ _ _ _)
      | (with_reducible exact ih2 _ _ _ _ _ _ _ _ _ _ _)
      | (with_reducible exact calrule_Text.mono _ _)
      | (with_reducible exact caltok_Lex.mono _ _)
      | (with_reducible exact erewhilelaw34_awake.mono _)
      | (with_reducible exact LeO.refl _)
      | (with_reducible exact LeO.none _)
      | (with_reducible refine LeO.ite ?_ ?_)
      | (with_reducible refine LeO.bind ?_ (fun _ => ?_))
      | exact ih0 _ _
      | exact ih1 _ _ _ _ _ _ _
      | exact ih2 _ _ _ _ _ _ _ _ _ _ _
      | exact calrule_Text.mono _ _
      | exact caltok_Lex.mono _ _
      | exact erewhilelaw34_awake.mono _
      | exact LeO.none _
      | refine LeO.ite ?_ ?_
      | refine LeO.bind ?_ (fun _ => ?_)
    · intro y0 y1 y2 y3 y4 y5 y6
      unfold erewhilelaw34_CalruleLines.l0
      repeat' first
      | (with_reducible exact ih0 _ _)
      | (with_reducible exact ih1 _ _ _ _ _ _ _)
      | (with_reducible exact ih2 _ _ _ _ _ _ _ _ _ _ _)
      | (with_reducible exact calrule_Text.mono _ _)
      | (with_reducible exact caltok_Lex.mono _ _)
      | (with_reducible exact erewhilelaw34_awake.mono _)
      | (with_reducible exact LeO.refl _)
      | (with_reducible exact LeO.none _)
      | (with_reducible refine LeO.ite ?_ ?_)
      | (with_reducible refine LeO.bind ?_ (fun _ => ?_))
      | exact ih0 _ _
      | exact ih1 _ _ _ _ _ _ _
      | exact ih2 _ _ _ _ _ _ _ _ _ _ _
      | exact calrule_Text.mono _ _
      | exact caltok_Lex.mono _ _
      | exact erewhilelaw34_awake.mono _
      | exact LeO.none _
      | refine LeO.ite ?_ ?_
      | refine LeO.bind ?_ (fun _ => ?_)
    · intro y0 y1 y2 y3 y4 y5 y6 y7 y8 y9 y10
      unfold erewhilelaw34_CalruleLines.l1
      repeat' first
      | (with_reducible exact ih0 _ _)
      | (with_reducible exact ih1 _ _ _ _ _ _ _)
      | (with_reducible exact ih2 _ _ _ _ _ _ _ _ _ _ _)
      | (with_reducible exact calrule_Text.mono _ _)
      | (with_reducible exact caltok_Lex.mono _ _)
      | (with_reducible exact erewhilelaw34_awake.mono _)
      | (with_reducible exact LeO.refl _)
      | (with_reducible exact LeO.none _)
      | (with_reducible refine LeO.ite ?_ ?_)
      | (with_reducible refine LeO.bind ?_ (fun _ => ?_))
      | exact ih0 _ _
      | exact ih1 _ _ _ _ _ _ _
      | exact ih2 _ _ _ _ _ _ _ _ _ _ _
      | exact calrule_Text.mono _ _
      | exact caltok_Lex.mono _ _
      | exact erewhilelaw34_awake.mono _
      | exact LeO.none _
      | refine LeO.ite ?_ ?_
      | refine LeO.bind ?_ (fun _ => ?_)
theorem erewhilelaw34_CalruleLines.mono : ∀ a0 k, LeO (erewhilelaw34_CalruleLines.f k a0) (erewhilelaw34_CalruleLines.f (k + 1) a0) := by
  intro a0 k
  obtain ⟨ih0, ih1, ih2⟩ := erewhilelaw34_CalruleLines.mono_l k
  unfold erewhilelaw34_CalruleLines.f
  repeat' first
      | (with_reducible exact ih0 _ _)
      | (with_reducible exact ih1 _ _ _ _ _ _ _)
      | (with_reducible exact ih2 _ _ _ _ _ _ _ _ _ _ _)
      | (with_reducible exact calrule_Text.mono _ _)
      | (with_reducible exact caltok_Lex.mono _ _)
      | (with_reducible exact erewhilelaw34_awake.mono _)
      | (with_reducible exact LeO.refl _)
      | (with_reducible exact LeO.none _)
      | (with_reducible refine LeO.ite ?_ ?_)
      | (with_reducible refine LeO.bind ?_ (fun _ => ?_))
      | exact ih0 _ _
      | exact ih1 _ _ _ _ _ _ _
      | exact ih2 _ _ _ _ _ _ _ _ _ _ _
      | exact calrule_Text.mono _ _
      | exact caltok_Lex.mono _ _
      | exact erewhilelaw34_awake.mono _
      | exact LeO.none _
      | refine LeO.ite ?_ ?_
      | refine LeO.bind ?_ (fun _ => ?_)
set_option maxHeartbeats 8000000 in
set_option maxRecDepth 100000 in
theorem erewhilelaw34_CalruleLines.calls (k : Nat) (A0 : Option Addr) (c0 : Nat) (l0 : List (S33)) (r : Bool) (w : World) (hr0 : Kd.C k33 w A0 l0.length l0) (hc0 : l0.length ≤ c0) (hU : Units w) (hT : Tab w) (h : erewhilelaw34_CalruleLines.f k l0 = some r) :
    Calls Tryd.prog 10 #[.slice A0 l0.length c0] w fun e w' => e = .returned (.bool r) ∧ Below w.heap.size w w' := by
  have hu46 := Tryd.underlying46
  have HR0 := Aside0.mk hr0
  have HC0 := Aside0.mk hc0
  clear hr0 hc0
  have HB := Aside0.mk (Below.refl w.heap.size w)
  have HT := Aside0.mk hT
  clear hT
  have HU := Aside0.mk hU
  clear hU
  have H : ((erewhilelaw34_awake.f k).bind fun t348 => (if t348 = true then (erewhilelaw34_CalruleLines.j0 k l0 (decide ((l0.length : Int) > 40))) else (erewhilelaw34_CalruleLines.j0 k l0 true))) = some r := h
  clear h
  have HC2 := Aside0.mk H
  clear H
  go_enter Tryd.func10, Tryd.ntmps10
  go_upto_region 1 with (fail)
  repeat (go_quiet (fail); go_upto_region 1 with (fail))
  go_cut [19] (fun v19 wc => ∃ (kq : Nat) (x19_1 : Bool), v19 = .bool x19_1 ∧ Aside0 (erewhilelaw34_CalruleLines.j0 kq l0 x19_1 = some r) ∧ Aside0 (kq ≤ k) ∧ Aside0 (Below w.heap.size w wc))
  case first =>
    have H := HC2.out
    clear HC2
    replace H := Option.bind_eq_some_iff.mp H
    obtain ⟨t348, A30, H⟩ := H
    replace H : (if t348 = true then (erewhilelaw34_CalruleLines.j0 k l0 (decide ((l0.length : Int) > 40))) else (erewhilelaw34_CalruleLines.j0 k l0 true)) = some r := H
    have A3 := Aside0.mk A30
    clear A30
    by_cases c4 : t348 = true
    · subst c4
      have H1 : (erewhilelaw34_CalruleLines.j0 k l0 (decide ((l0.length : Int) > 40))) = some r := by rw [if_pos rfl] at H; exact H
      clear H
      have H := H1
      clear H1
      have H' := Aside0.mk H
      clear H
      go_wp2_with (first | (go_at_call 13; (with_reducible refine (erewhilelaw34_awake.calls k  true _ ?sideU A3.out).mono ?_); (case sideU => exact Units.below HU.out (by repeat (first | (with_reducible first | exact HB.out | apply below_alloc | apply pw_below_drewN | apply below_drew1) | exact HB.out))); rintro e w5 ⟨rfl, hb⟩; have n0_ := Aside0.mk (below_step (by repeat (first | (with_reducible first | exact HB.out | apply below_alloc | apply pw_below_drewN | apply below_drew1) | exact HB.out)) hb); clear HB; have HB := n0_; clear n0_; (try clear hb); (try clear hb2); (try clear hk); (try clear hi)))
      repeat (go_quiet (first | (go_at_call 13; (with_reducible refine (erewhilelaw34_awake.calls k  true _ ?sideU A3.out).mono ?_); (case sideU => exact Units.below HU.out (by repeat (first | (with_reducible first | exact HB.out | apply below_alloc | apply pw_below_drewN | apply below_drew1) | exact HB.out))); rintro e w5 ⟨rfl, hb⟩; have n0_ := Aside0.mk (below_step (by repeat (first | (with_reducible first | exact HB.out | apply below_alloc | apply pw_below_drewN | apply below_drew1) | exact HB.out)) hb); clear HB; have HB := n0_; clear n0_; (try clear hb); (try clear hb2); (try clear hk); (try clear hi))); try go_wp2_with (first | (go_at_call 13; (with_reducible refine (erewhilelaw34_awake.calls k  true _ ?sideU A3.out).mono ?_); (case sideU => exact Units.below HU.out (by repeat (first | (with_reducible first | exact HB.out | apply below_alloc | apply pw_below_drewN | apply below_drew1) | exact HB.out))); rintro e w5 ⟨rfl, hb⟩; have n0_ := Aside0.mk (below_step (by repeat (first | (with_reducible first | exact HB.out | apply below_alloc | apply pw_below_drewN | apply below_drew1) | exact HB.out)) hb); clear HB; have HB := n0_; clear n0_; (try clear hb); (try clear hb2); (try clear hk); (try clear hi))))
      go_meet
      case rel => exact ⟨_, (decide ((l0.length : Int) > 40)), (by first | rfl | (simp; done) | (simp [*]; done)), H', ⟨by first | omega | exact Nat.le_refl _⟩, ⟨by repeat (first | (with_reducible first | exact HB.out | apply below_alloc | apply pw_below_drewN | apply below_drew1) | exact HB.out)⟩⟩
    · replace c4 := Bool.eq_false_iff.mpr c4
      subst c4
      have H1 : (erewhilelaw34_CalruleLines.j0 k l0 true) = some r := by rw [if_neg (show ¬ (false = true) by decide)] at H; exact H
      clear H
      have H := H1
      clear H1
      have H' := Aside0.mk H
      clear H
      go_wp2_with (first | (go_at_call 13; (with_reducible refine (erewhilelaw34_awake.calls k  false _ ?sideU A3.out).mono ?_); (case sideU => exact Units.below HU.out (by repeat (first | (with_reducible first | exact HB.out | apply below_alloc | apply pw_below_drewN | apply below_drew1) | exact HB.out))); rintro e w6 ⟨rfl, hb⟩; have n0_ := Aside0.mk (below_step (by repeat (first | (with_reducible first | exact HB.out | apply below_alloc | apply pw_below_drewN | apply below_drew1) | exact HB.out)) hb); clear HB; have HB := n0_; clear n0_; (try clear hb); (try clear hb2); (try clear hk); (try clear hi)))
      repeat (go_quiet (first | (go_at_call 13; (with_reducible refine (erewhilelaw34_awake.calls k  false _ ?sideU A3.out).mono ?_); (case sideU => exact Units.below HU.out (by repeat (first | (with_reducible first | exact HB.out | apply below_alloc | apply pw_below_drewN | apply below_drew1) | exact HB.out))); rintro e w6 ⟨rfl, hb⟩; have n0_ := Aside0.mk (below_step (by repeat (first | (with_reducible first | exact HB.out | apply below_alloc | apply pw_below_drewN | apply below_drew1) | exact HB.out)) hb); clear HB; have HB := n0_; clear n0_; (try clear hb); (try clear hb2); (try clear hk); (try clear hi))); try go_wp2_with (first | (go_at_call 13; (with_reducible refine (erewhilelaw34_awake.calls k  false _ ?sideU A3.out).mono ?_); (case sideU => exact Units.below HU.out (by repeat (first | (with_reducible first | exact HB.out | apply below_alloc | apply pw_below_drewN | apply below_drew1) | exact HB.out))); rintro e w6 ⟨rfl, hb⟩; have n0_ := Aside0.mk (below_step (by repeat (first | (with_reducible first | exact HB.out | apply below_alloc | apply pw_below_drewN | apply below_drew1) | exact HB.out)) hb); clear HB; have HB := n0_; clear n0_; (try clear hb); (try clear hb2); (try clear hk); (try clear hi))))
      go_meet
      case rel => exact ⟨_, (true), (by first | rfl | (simp; done) | (simp [*]; done)), H', ⟨by first | omega | exact Nat.le_refl _⟩, ⟨by repeat (first | (with_reducible first | exact HB.out | apply below_alloc | apply pw_below_drewN | apply below_drew1) | exact HB.out)⟩⟩
  case rest =>
    clear HC2
    try clear c1
    try clear p2
    try clear c4
    obtain ⟨kq, x19_1, rfl, HA, HJ1, HB⟩ := hcut
    cases kq with
    | zero => exact absurd HA.out (by simp [erewhilelaw34_CalruleLines.j0])
    | succ kj1 =>
      have H := HA.out
      clear HA
      simp only [erewhilelaw34_CalruleLines.j0] at H
      by_cases c7 : x19_1 = true
      · subst c7
        have H1 : ((erewhilelaw34_awake.f kj1).bind fun t349 => (some t349)) = some r := by rw [if_pos rfl] at H; exact H
        clear H
        have H := H1
        clear H1
        replace H := Option.bind_eq_some_iff.mp H
        obtain ⟨t349, A80, H⟩ := H
        replace H : (some t349) = some r := H
        have A8 := Aside0.mk A80
        clear A80
        obtain rfl := Option.some.inj H
        go_wp2_with (first | (go_at_call 13; (with_reducible refine (erewhilelaw34_awake.calls kj1  t349 _ ?sideU A8.out).mono ?_); (case sideU => exact Units.below HU.out (by repeat (first | (with_reducible first | exact HB.out | apply below_alloc | apply pw_below_drewN | apply below_drew1) | exact HB.out))); rintro e w9 ⟨rfl, hb⟩; have n0_ := Aside0.mk (below_step (by repeat (first | (with_reducible first | exact HB.out | apply below_alloc | apply pw_below_drewN | apply below_drew1) | exact HB.out)) hb); clear HB; have HB := n0_; clear n0_; (try clear hb); (try clear hb2); (try clear hk); (try clear hi)))
        repeat (go_quiet (first | (go_at_call 13; (with_reducible refine (erewhilelaw34_awake.calls kj1  t349 _ ?sideU A8.out).mono ?_); (case sideU => exact Units.below HU.out (by repeat (first | (with_reducible first | exact HB.out | apply below_alloc | apply pw_below_drewN | apply below_drew1) | exact HB.out))); rintro e w9 ⟨rfl, hb⟩; have n0_ := Aside0.mk (below_step (by repeat (first | (with_reducible first | exact HB.out | apply below_alloc | apply pw_below_drewN | apply below_drew1) | exact HB.out)) hb); clear HB; have HB := n0_; clear n0_; (try clear hb); (try clear hb2); (try clear hk); (try clear hi))); try go_wp2_with (first | (go_at_call 13; (with_reducible refine (erewhilelaw34_awake.calls kj1  t349 _ ?sideU A8.out).mono ?_); (case sideU => exact Units.below HU.out (by repeat (first | (with_reducible first | exact HB.out | apply below_alloc | apply pw_below_drewN | apply below_drew1) | exact HB.out))); rintro e w9 ⟨rfl, hb⟩; have n0_ := Aside0.mk (below_step (by repeat (first | (with_reducible first | exact HB.out | apply below_alloc | apply pw_below_drewN | apply below_drew1) | exact HB.out)) hb); clear HB; have HB := n0_; clear n0_; (try clear hb); (try clear hb2); (try clear hk); (try clear hi))))
        go_ret
        exact ⟨by first | rfl | (simp [errW_none, errW_some] <;> rfl) | (simp [*, errW_none, errW_some] <;> rfl), by repeat (first | (with_reducible first | exact HB.out | apply below_alloc | apply pw_below_drewN | apply below_drew1) | exact HB.out)⟩
      · replace c7 := Bool.eq_false_iff.mpr c7
        subst c7
        have H1 : ((calrule_Text.f kj1 l0).bind fun bt350 => (if bt350.2 = 0 then ((caltok_Lex.f kj1 bt350.1).bind fun bt352 => (if bt352.2.2 = 0 then (erewhilelaw34_CalruleLines.l0 kj1 l0 0 0 0 bt352.1 (bt352.1.length : Int) 0) else (some false))) else (some true))) = some r := by rw [if_neg (show ¬ (false = true) by decide)] at H; exact H
        clear H
        have H := H1
        clear H1
        replace H := Option.bind_eq_some_iff.mp H
        obtain ⟨⟨t350, t351⟩, A100, H⟩ := H
        replace H : (if t351 = 0 then ((caltok_Lex.f kj1 t350).bind fun bt352 => (if bt352.2.2 = 0 then (erewhilelaw34_CalruleLines.l0 kj1 l0 0 0 0 bt352.1 (bt352.1.length : Int) 0) else (some false))) else (some true)) = some r := H
        have A10 := Aside0.mk A100
        clear A100
        by_cases c11 : t351 = 0
        · rw [if_pos c11] at H
          have c11b0 : (t351 == 0) = true := beq_iff_eq.mpr c11
          have c11b1 : (t351 != 0) = false := bne_eq_false_iff_eq.mpr c11
          clear c11
          replace H := Option.bind_eq_some_iff.mp H
          obtain ⟨⟨t352, t353, t354⟩, A120, H⟩ := H
          replace H : (if t354 = 0 then (erewhilelaw34_CalruleLines.l0 kj1 l0 0 0 0 t352 (t352.length : Int) 0) else (some false)) = some r := H
          have A12 := Aside0.mk A120
          clear A120
          by_cases c13 : t354 = 0
          · rw [if_pos c13] at H
            have c13b0 : (t354 == 0) = true := beq_iff_eq.mpr c13
            have c13b1 : (t354 != 0) = false := bne_eq_false_iff_eq.mpr c13
            clear c13
            have H' := Aside0.mk H
            clear H
            go_wp2_with (first | (go_at_call 17; (with_reducible refine (calrule_Text.calls kj1 _ _ l0 t350 t351 _ ?side1 ?side2 ?sideT A10.out).mono ?_); (case sideT => exact Tab.below HT.out (by repeat (first | (with_reducible first | exact HB.out | apply below_alloc | apply pw_below_drewN | apply below_drew1) | exact HB.out))); (case side1 => repeat (first | exact (Kd.C_below HR0.out HB.out) | (with_reducible refine Kd.C_alloc ?_ _) | (with_reducible refine Kd.C_drewN ?_ _) | (with_reducible refine Kd.C_drew ?_))); (case side2 => exact HC0.out); rintro e w14 ⟨rfl, hb⟩; have n0_ := Aside0.mk (below_step (by repeat (first | (with_reducible first | exact HB.out | apply below_alloc | apply pw_below_drewN | apply below_drew1) | exact HB.out)) hb); clear HB; have HB := n0_; clear n0_; (try clear hb); (try clear hb2); (try clear hk); (try clear hi)) | (go_at_call 21; (with_reducible refine (caltok_Lex.calls kj1 t350 t352 t353 t354 _ ?sideU A12.out).mono ?_); (case sideU => exact Units.below HU.out (by repeat (first | (with_reducible first | exact HB.out | apply below_alloc | apply pw_below_drewN | apply below_drew1) | exact HB.out))); rintro e w15 ⟨v355, rfl, ho0, hb⟩; have n0_ := Aside0.mk (Kd.R_lower ho0 (below_size (by repeat (first | (with_reducible first | exact HB.out | apply below_alloc | apply pw_below_drewN | apply below_drew1) | exact HB.out)))); have n1_ := Aside0.mk (below_step (by repeat (first | (with_reducible first | exact HB.out | apply below_alloc | apply pw_below_drewN | apply below_drew1) | exact HB.out)) hb); clear HB; have HO356 := n0_; have HB := n1_; clear n0_ n1_; (try clear hb); (try clear hb2); (try clear hk); (try clear hi); (try clear ho0); obtain ⟨Ao16, co16, eo16⟩ := Kd.R_slice HO356.out; subst eo16))
            repeat (go_quiet (first | (go_at_call 17; (with_reducible refine (calrule_Text.calls kj1 _ _ l0 t350 t351 _ ?side1 ?side2 ?sideT A10.out).mono ?_); (case sideT => exact Tab.below HT.out (by repeat (first | (with_reducible first | exact HB.out | apply below_alloc | apply pw_below_drewN | apply below_drew1) | exact HB.out))); (case side1 => repeat (first | exact (Kd.C_below HR0.out HB.out) | (with_reducible refine Kd.C_alloc ?_ _) | (with_reducible refine Kd.C_drewN ?_ _) | (with_reducible refine Kd.C_drew ?_))); (case side2 => exact HC0.out); rintro e w14 ⟨rfl, hb⟩; have n0_ := Aside0.mk (below_step (by repeat (first | (with_reducible first | exact HB.out | apply below_alloc | apply pw_below_drewN | apply below_drew1) | exact HB.out)) hb); clear HB; have HB := n0_; clear n0_; (try clear hb); (try clear hb2); (try clear hk); (try clear hi)) | (go_at_call 21; (with_reducible refine (caltok_Lex.calls kj1 t350 t352 t353 t354 _ ?sideU A12.out).mono ?_); (case sideU => exact Units.below HU.out (by repeat (first | (with_reducible first | exact HB.out | apply below_alloc | apply pw_below_drewN | apply below_drew1) | exact HB.out))); rintro e w15 ⟨v355, rfl, ho0, hb⟩; have n0_ := Aside0.mk (Kd.R_lower ho0 (below_size (by repeat (first | (with_reducible first | exact HB.out | apply below_alloc | apply pw_below_drewN | apply below_drew1) | exact HB.out)))); have n1_ := Aside0.mk (below_step (by repeat (first | (with_reducible first | exact HB.out | apply below_alloc | apply pw_below_drewN | apply below_drew1) | exact HB.out)) hb); clear HB; have HO356 := n0_; have HB := n1_; clear n0_ n1_; (try clear hb); (try clear hb2); (try clear hk); (try clear hi); (try clear ho0); obtain ⟨Ao16, co16, eo16⟩ := Kd.R_slice HO356.out; subst eo16)); try go_wp2_with (first | (go_at_call 17; (with_reducible refine (calrule_Text.calls kj1 _ _ l0 t350 t351 _ ?side1 ?side2 ?sideT A10.out).mono ?_); (case sideT => exact Tab.below HT.out (by repeat (first | (with_reducible first | exact HB.out | apply below_alloc | apply pw_below_drewN | apply below_drew1) | exact HB.out))); (case side1 => repeat (first | exact (Kd.C_below HR0.out HB.out) | (with_reducible refine Kd.C_alloc ?_ _) | (with_reducible refine Kd.C_drewN ?_ _) | (with_reducible refine Kd.C_drew ?_))); (case side2 => exact HC0.out); rintro e w14 ⟨rfl, hb⟩; have n0_ := Aside0.mk (below_step (by repeat (first | (with_reducible first | exact HB.out | apply below_alloc | apply pw_below_drewN | apply below_drew1) | exact HB.out)) hb); clear HB; have HB := n0_; clear n0_; (try clear hb); (try clear hb2); (try clear hk); (try clear hi)) | (go_at_call 21; (with_reducible refine (caltok_Lex.calls kj1 t350 t352 t353 t354 _ ?sideU A12.out).mono ?_); (case sideU => exact Units.below HU.out (by repeat (first | (with_reducible first | exact HB.out | apply below_alloc | apply pw_below_drewN | apply below_drew1) | exact HB.out))); rintro e w15 ⟨v355, rfl, ho0, hb⟩; have n0_ := Aside0.mk (Kd.R_lower ho0 (below_size (by repeat (first | (with_reducible first | exact HB.out | apply below_alloc | apply pw_below_drewN | apply below_drew1) | exact HB.out)))); have n1_ := Aside0.mk (below_step (by repeat (first | (with_reducible first | exact HB.out | apply below_alloc | apply pw_below_drewN | apply below_drew1) | exact HB.out)) hb); clear HB; have HO356 := n0_; have HB := n1_; clear n0_ n1_; (try clear hb); (try clear hb2); (try clear hk); (try clear hi); (try clear ho0); obtain ⟨Ao16, co16, eo16⟩ := Kd.R_slice HO356.out; subst eo16)))
            go_loopg [8, 9, 10, 38] kj1 (fun kq v8 v9 v10 v38 w' => ∃ (x8_2 : Int) (x9_2 : Int) (x10_2 : Int) (x38_2 : Int), v8 = .int .i64 x8_2 ∧ v9 = .int .i64 x9_2 ∧ v10 = .int .i64 x10_2 ∧ v38 = .int .i64 x38_2 ∧ Aside0 (erewhilelaw34_CalruleLines.l0 kq l0 x8_2 x9_2 x10_2 t352 (t352.length : Int) x38_2 = some r) ∧ Aside0 (kq ≤ kj1) ∧ Aside0 (Kd.R k46 46 w' w.heap.size (fun _ => True) (.slice Ao16 t352.length co16) t352) ∧ Aside0 (Below w.heap.size w w'))
            case atStart => exact ⟨(0), (0), (0), (0), (by first | rfl | (simp; done) | (simp [*]; done)), (by first | rfl | (simp; done) | (simp [*]; done)), (by first | rfl | (simp; done) | (simp [*]; done)), (by first | rfl | (simp; done) | (simp [*]; done)), H', ⟨Nat.le_refl _⟩, ⟨by (with_reducible repeat (first | apply Kd.R_alloc | apply Kd.R_drewN | apply Kd.R_drew)); exact HO356.out⟩, ⟨by repeat (first | (with_reducible first | exact HB.out | apply below_alloc | apply pw_below_drewN | apply below_drew1) | exact HB.out)⟩⟩
            case round =>
              clear H'
              try clear c1
              try clear p2
              try clear c4
              try clear c7
              try clear c10
              try clear c11
              try clear c11b0
              try clear c11b1
              try clear c13
              try clear c13b0
              try clear c13b1
              try clear p2
              obtain ⟨x8_2, x9_2, x10_2, x38_2, rfl, rfl, rfl, rfl, HA, HK2, HO_36, HB⟩ := hrel
              cases gk with
              | zero => exact absurd HA.out (by simp [erewhilelaw34_CalruleLines.l0])
              | succ k2 =>
                have H := HA.out
                clear HA
                simp only [erewhilelaw34_CalruleLines.l0] at H
                by_cases c17 : x38_2 < (t352.length : Int)
                · rw [if_pos c17] at H
                  have c17b0 : decide (x38_2 < (t352.length : Int)) = true := decide_eq_true c17
                  clear c17
                  by_cases c18 : 0 ≤ x38_2
                  · rw [if_pos c18] at H
                    have c18b0 : decide (0 ≤ x38_2) = true := decide_eq_true c18
                    clear c18
                    by_cases c19 : x38_2 < (t352.length : Int)
                    · rw [if_pos c19] at H
                      have c19b0 : decide (x38_2 < (t352.length : Int)) = true := decide_eq_true c19
                      clear c19
                      by_cases c20 : ((rd_T46 t352 x38_2).f0) = 3
                      · rw [if_pos c20] at H
                        have c20b0 : (((rd_T46 t352 x38_2).f0) == 3) = true := beq_iff_eq.mpr c20
                        have c20b1 : (((rd_T46 t352 x38_2).f0) != 3) = false := bne_eq_false_iff_eq.mpr c20
                        clear c20
                        have H' := Aside0.mk H
                        clear H
                        have p357 : 0 ≤ (x38_2 : Int) := of_decide_eq_true (by first | (with_reducible assumption) | assumption)
                        have q357 : x38_2 < (t352.length : Int) := of_decide_eq_true (by first | (with_reducible assumption) | assumption)
                        obtain ⟨ad357, e357, hx357_0, hx357_1, hx357_2, hx357_3⟩ := at_T46 (Kd.R_reads' HO_36.out).2.2 x38_2 p357 q357
                        cases e357
                        replace p357 := eq_true p357
                        replace q357 := eq_true q357
                        go_wp2_with (first | ((with_reducible refine gate_dst (N := 12) rfl ?_); (try (refine gate_guard (by rfl) ?_; dsimp only)); refine box_event ?hg (N := 12) ?hd (cs := #[.int .i64 0, .string (⟨#[]⟩ : ByteArray), .int .i64 0, .int .i64 0]) (t := 46) ?hr ?_; (case hd => rfl); (case hg => rfl); (case hr => first | (go_simp; done) | (go_simp; rfl)); intro gb358 hg w21 hbox hb; have n0_ := Aside0.mk (Kd.R_below (Kd.R_elderB (by (with_reducible repeat (first | apply Kd.R_alloc | apply Kd.R_drewN | apply Kd.R_drew)); exact HO_36.out) gb358 (Nat.le_of_eq hg.symm)) hb); have n1_ := Aside0.mk (below_step (by repeat (first | (with_reducible first | exact HB.out | apply below_alloc | apply pw_below_drewN | apply below_drew1) | exact HB.out)) hb); have n2_ := Aside0.mk (hbox); have n3_ := Aside0.mk ((by rw [hg]; exact (below_size (by repeat (first | (with_reducible first | exact HB.out | apply below_alloc | apply pw_below_drewN | apply below_drew1) | exact HB.out))) : w.heap.size ≤ gb358)); have n4_ := Aside0.mk ((by rw [hg]; exact (below_size (by repeat (first | (with_reducible first | exact HB.out | apply below_alloc | apply pw_below_drewN | apply below_drew1) | exact HB.out))) : w.heap.size ≤ gb358)); clear HO_36; clear HB; have HO_36 := n0_; have HB := n1_; have BK358 := n2_; have GW358 := n3_; have GE358 := n4_; clear n0_ n1_ n2_ n3_ n4_; clear hb hbox hg; have hcz22_0 : w21.cell? ⟨gb358, 0, none⟩ = some (.int .i64 0) := (blk_cell BK358.out 0).trans rfl; have hcz22_1 : w21.cell? ⟨gb358, 1, none⟩ = some (.string (⟨#[]⟩ : ByteArray)) := (blk_cell BK358.out 1).trans rfl; have hcz22_2 : w21.cell? ⟨gb358, 2, none⟩ = some (.int .i64 0) := (blk_cell BK358.out 2).trans rfl; have hcz22_3 : w21.cell? ⟨gb358, 3, none⟩ = some (.int .i64 0) := (blk_cell BK358.out 3).trans rfl; have hfz22_0 := blk_frozen BK358.out 0; have hfz22_1 := blk_frozen BK358.out 1; have hfz22_2 := blk_frozen BK358.out 2; have hfz22_3 := blk_frozen BK358.out 3))
                        repeat (go_quiet (first | ((with_reducible refine gate_dst (N := 12) rfl ?_); (try (refine gate_guard (by rfl) ?_; dsimp only)); refine box_event ?hg (N := 12) ?hd (cs := #[.int .i64 0, .string (⟨#[]⟩ : ByteArray), .int .i64 0, .int .i64 0]) (t := 46) ?hr ?_; (case hd => rfl); (case hg => rfl); (case hr => first | (go_simp; done) | (go_simp; rfl)); intro gb358 hg w21 hbox hb; have n0_ := Aside0.mk (Kd.R_below (Kd.R_elderB (by (with_reducible repeat (first | apply Kd.R_alloc | apply Kd.R_drewN | apply Kd.R_drew)); exact HO_36.out) gb358 (Nat.le_of_eq hg.symm)) hb); have n1_ := Aside0.mk (below_step (by repeat (first | (with_reducible first | exact HB.out | apply below_alloc | apply pw_below_drewN | apply below_drew1) | exact HB.out)) hb); have n2_ := Aside0.mk (hbox); have n3_ := Aside0.mk ((by rw [hg]; exact (below_size (by repeat (first | (with_reducible first | exact HB.out | apply below_alloc | apply pw_below_drewN | apply below_drew1) | exact HB.out))) : w.heap.size ≤ gb358)); have n4_ := Aside0.mk ((by rw [hg]; exact (below_size (by repeat (first | (with_reducible first | exact HB.out | apply below_alloc | apply pw_below_drewN | apply below_drew1) | exact HB.out))) : w.heap.size ≤ gb358)); clear HO_36; clear HB; have HO_36 := n0_; have HB := n1_; have BK358 := n2_; have GW358 := n3_; have GE358 := n4_; clear n0_ n1_ n2_ n3_ n4_; clear hb hbox hg; have hcz22_0 : w21.cell? ⟨gb358, 0, none⟩ = some (.int .i64 0) := (blk_cell BK358.out 0).trans rfl; have hcz22_1 : w21.cell? ⟨gb358, 1, none⟩ = some (.string (⟨#[]⟩ : ByteArray)) := (blk_cell BK358.out 1).trans rfl; have hcz22_2 : w21.cell? ⟨gb358, 2, none⟩ = some (.int .i64 0) := (blk_cell BK358.out 2).trans rfl; have hcz22_3 : w21.cell? ⟨gb358, 3, none⟩ = some (.int .i64 0) := (blk_cell BK358.out 3).trans rfl; have hfz22_0 := blk_frozen BK358.out 0; have hfz22_1 := blk_frozen BK358.out 1; have hfz22_2 := blk_frozen BK358.out 2; have hfz22_3 := blk_frozen BK358.out 3)); try go_wp2_with (first | ((with_reducible refine gate_dst (N := 12) rfl ?_); (try (refine gate_guard (by rfl) ?_; dsimp only)); refine box_event ?hg (N := 12) ?hd (cs := #[.int .i64 0, .string (⟨#[]⟩ : ByteArray), .int .i64 0, .int .i64 0]) (t := 46) ?hr ?_; (case hd => rfl); (case hg => rfl); (case hr => first | (go_simp; done) | (go_simp; rfl)); intro gb358 hg w21 hbox hb; have n0_ := Aside0.mk (Kd.R_below (Kd.R_elderB (by (with_reducible repeat (first | apply Kd.R_alloc | apply Kd.R_drewN | apply Kd.R_drew)); exact HO_36.out) gb358 (Nat.le_of_eq hg.symm)) hb); have n1_ := Aside0.mk (below_step (by repeat (first | (with_reducible first | exact HB.out | apply below_alloc | apply pw_below_drewN | apply below_drew1) | exact HB.out)) hb); have n2_ := Aside0.mk (hbox); have n3_ := Aside0.mk ((by rw [hg]; exact (below_size (by repeat (first | (with_reducible first | exact HB.out | apply below_alloc | apply pw_below_drewN | apply below_drew1) | exact HB.out))) : w.heap.size ≤ gb358)); have n4_ := Aside0.mk ((by rw [hg]; exact (below_size (by repeat (first | (with_reducible first | exact HB.out | apply below_alloc | apply pw_below_drewN | apply below_drew1) | exact HB.out))) : w.heap.size ≤ gb358)); clear HO_36; clear HB; have HO_36 := n0_; have HB := n1_; have BK358 := n2_; have GW358 := n3_; have GE358 := n4_; clear n0_ n1_ n2_ n3_ n4_; clear hb hbox hg; have hcz22_0 : w21.cell? ⟨gb358, 0, none⟩ = some (.int .i64 0) := (blk_cell BK358.out 0).trans rfl; have hcz22_1 : w21.cell? ⟨gb358, 1, none⟩ = some (.string (⟨#[]⟩ : ByteArray)) := (blk_cell BK358.out 1).trans rfl; have hcz22_2 : w21.cell? ⟨gb358, 2, none⟩ = some (.int .i64 0) := (blk_cell BK358.out 2).trans rfl; have hcz22_3 : w21.cell? ⟨gb358, 3, none⟩ = some (.int .i64 0) := (blk_cell BK358.out 3).trans rfl; have hfz22_0 := blk_frozen BK358.out 0; have hfz22_1 := blk_frozen BK358.out 1; have hfz22_2 := blk_frozen BK358.out 2; have hfz22_3 := blk_frozen BK358.out 3)))
                        go_roundg k2
                        case measure => have := HJ1.out; have := HK2.out; omega
                        case rel => exact ⟨(wrap64 (x8_2 + 1)), (x9_2), (x10_2), (wrap64 (x38_2 + 1)), (by first | rfl | (simp; done) | (simp [*]; done)), (by first | rfl | (simp; done) | (simp [*]; done)), (by first | rfl | (simp; done) | (simp [*]; done)), (by first | rfl | (simp; done) | (simp [*]; done)), H', ⟨by have := HJ1.out; have := HK2.out; omega⟩, ⟨by (with_reducible repeat (first | apply Kd.R_alloc | apply Kd.R_drewN | apply Kd.R_drew)); exact Kd.R_mono (Kd.R_far (p := ⟨gb358, 3, none⟩) (Kd.R_far (p := ⟨gb358, 2, none⟩) (Kd.R_far (p := ⟨gb358, 1, none⟩) (Kd.R_far (p := ⟨gb358, 0, none⟩) (Kd.R_mono HO_36.out (fun k_ hk => (⟨hk, hk.2⟩ : _ ∧ k_ ≠ gb358))) (fun _ hk => hk.2) (.int .i64 ((rd_T46 t352 x38_2).f0))) (fun _ hk => hk.2) (.string ((rd_T46 t352 x38_2).f1))) (fun _ hk => hk.2) (.int .i64 ((rd_T46 t352 x38_2).f2))) (fun _ hk => hk.2) (.int .i64 ((rd_T46 t352 x38_2).f3))) (fun _ hk => trivial)⟩, ⟨by repeat (first | (with_reducible first | exact HB.out | apply below_alloc | apply pw_below_drewN | apply below_drew1 | refine below_set ?_ GE358.out) | exact HB.out)⟩⟩
                      · rw [if_neg c20] at H
                        have c20b0 : (((rd_T46 t352 x38_2).f0) == 3) = false := beq_eq_false_iff_ne.mpr c20
                        have c20b1 : (((rd_T46 t352 x38_2).f0) != 3) = true := bne_iff_ne.mpr c20
                        by_cases c23 : ((rd_T46 t352 x38_2).f0) = 2
                        · rw [if_pos c23] at H
                          have c23b0 : (((rd_T46 t352 x38_2).f0) == 2) = true := beq_iff_eq.mpr c23
                          have c23b1 : (((rd_T46 t352 x38_2).f0) != 2) = false := bne_eq_false_iff_eq.mpr c23
                          clear c23
                          have H' := Aside0.mk H
                          clear H
                          have p357 : 0 ≤ (x38_2 : Int) := of_decide_eq_true (by first | (with_reducible assumption) | assumption)
                          have q357 : x38_2 < (t352.length : Int) := of_decide_eq_true (by first | (with_reducible assumption) | assumption)
                          obtain ⟨ad357, e357, hx357_0, hx357_1, hx357_2, hx357_3⟩ := at_T46 (Kd.R_reads' HO_36.out).2.2 x38_2 p357 q357
                          cases e357
                          replace p357 := eq_true p357
                          replace q357 := eq_true q357
                          go_wp2_with (first | ((with_reducible refine gate_dst (N := 12) rfl ?_); (try (refine gate_guard (by rfl) ?_; dsimp only)); refine box_event ?hg (N := 12) ?hd (cs := #[.int .i64 0, .string (⟨#[]⟩ : ByteArray), .int .i64 0, .int .i64 0]) (t := 46) ?hr ?_; (case hd => rfl); (case hg => rfl); (case hr => first | (go_simp; done) | (go_simp; rfl)); intro gb358 hg w24 hbox hb; have n0_ := Aside0.mk (Kd.R_below (Kd.R_elderB (by (with_reducible repeat (first | apply Kd.R_alloc | apply Kd.R_drewN | apply Kd.R_drew)); exact HO_36.out) gb358 (Nat.le_of_eq hg.symm)) hb); have n1_ := Aside0.mk (below_step (by repeat (first | (with_reducible first | exact HB.out | apply below_alloc | apply pw_below_drewN | apply below_drew1) | exact HB.out)) hb); have n2_ := Aside0.mk (hbox); have n3_ := Aside0.mk ((by rw [hg]; exact (below_size (by repeat (first | (with_reducible first | exact HB.out | apply below_alloc | apply pw_below_drewN | apply below_drew1) | exact HB.out))) : w.heap.size ≤ gb358)); have n4_ := Aside0.mk ((by rw [hg]; exact (below_size (by repeat (first | (with_reducible first | exact HB.out | apply below_alloc | apply pw_below_drewN | apply below_drew1) | exact HB.out))) : w.heap.size ≤ gb358)); clear HO_36; clear HB; have HO_36 := n0_; have HB := n1_; have BK358 := n2_; have GW358 := n3_; have GE358 := n4_; clear n0_ n1_ n2_ n3_ n4_; clear hb hbox hg; have hcz25_0 : w24.cell? ⟨gb358, 0, none⟩ = some (.int .i64 0) := (blk_cell BK358.out 0).trans rfl; have hcz25_1 : w24.cell? ⟨gb358, 1, none⟩ = some (.string (⟨#[]⟩ : ByteArray)) := (blk_cell BK358.out 1).trans rfl; have hcz25_2 : w24.cell? ⟨gb358, 2, none⟩ = some (.int .i64 0) := (blk_cell BK358.out 2).trans rfl; have hcz25_3 : w24.cell? ⟨gb358, 3, none⟩ = some (.int .i64 0) := (blk_cell BK358.out 3).trans rfl; have hfz25_0 := blk_frozen BK358.out 0; have hfz25_1 := blk_frozen BK358.out 1; have hfz25_2 := blk_frozen BK358.out 2; have hfz25_3 := blk_frozen BK358.out 3))
                          repeat (go_quiet (first | ((with_reducible refine gate_dst (N := 12) rfl ?_); (try (refine gate_guard (by rfl) ?_; dsimp only)); refine box_event ?hg (N := 12) ?hd (cs := #[.int .i64 0, .string (⟨#[]⟩ : ByteArray), .int .i64 0, .int .i64 0]) (t := 46) ?hr ?_; (case hd => rfl); (case hg => rfl); (case hr => first | (go_simp; done) | (go_simp; rfl)); intro gb358 hg w24 hbox hb; have n0_ := Aside0.mk (Kd.R_below (Kd.R_elderB (by (with_reducible repeat (first | apply Kd.R_alloc | apply Kd.R_drewN | apply Kd.R_drew)); exact HO_36.out) gb358 (Nat.le_of_eq hg.symm)) hb); have n1_ := Aside0.mk (below_step (by repeat (first | (with_reducible first | exact HB.out | apply below_alloc | apply pw_below_drewN | apply below_drew1) | exact HB.out)) hb); have n2_ := Aside0.mk (hbox); have n3_ := Aside0.mk ((by rw [hg]; exact (below_size (by repeat (first | (with_reducible first | exact HB.out | apply below_alloc | apply pw_below_drewN | apply below_drew1) | exact HB.out))) : w.heap.size ≤ gb358)); have n4_ := Aside0.mk ((by rw [hg]; exact (below_size (by repeat (first | (with_reducible first | exact HB.out | apply below_alloc | apply pw_below_drewN | apply below_drew1) | exact HB.out))) : w.heap.size ≤ gb358)); clear HO_36; clear HB; have HO_36 := n0_; have HB := n1_; have BK358 := n2_; have GW358 := n3_; have GE358 := n4_; clear n0_ n1_ n2_ n3_ n4_; clear hb hbox hg; have hcz25_0 : w24.cell? ⟨gb358, 0, none⟩ = some (.int .i64 0) := (blk_cell BK358.out 0).trans rfl; have hcz25_1 : w24.cell? ⟨gb358, 1, none⟩ = some (.string (⟨#[]⟩ : ByteArray)) := (blk_cell BK358.out 1).trans rfl; have hcz25_2 : w24.cell? ⟨gb358, 2, none⟩ = some (.int .i64 0) := (blk_cell BK358.out 2).trans rfl; have hcz25_3 : w24.cell? ⟨gb358, 3, none⟩ = some (.int .i64 0) := (blk_cell BK358.out 3).trans rfl; have hfz25_0 := blk_frozen BK358.out 0; have hfz25_1 := blk_frozen BK358.out 1; have hfz25_2 := blk_frozen BK358.out 2; have hfz25_3 := blk_frozen BK358.out 3)); try go_wp2_with (first | ((with_reducible refine gate_dst (N := 12) rfl ?_); (try (refine gate_guard (by rfl) ?_; dsimp only)); refine box_event ?hg (N := 12) ?hd (cs := #[.int .i64 0, .string (⟨#[]⟩ : ByteArray), .int .i64 0, .int .i64 0]) (t := 46) ?hr ?_; (case hd => rfl); (case hg => rfl); (case hr => first | (go_simp; done) | (go_simp; rfl)); intro gb358 hg w24 hbox hb; have n0_ := Aside0.mk (Kd.R_below (Kd.R_elderB (by (with_reducible repeat (first | apply Kd.R_alloc | apply Kd.R_drewN | apply Kd.R_drew)); exact HO_36.out) gb358 (Nat.le_of_eq hg.symm)) hb); have n1_ := Aside0.mk (below_step (by repeat (first | (with_reducible first | exact HB.out | apply below_alloc | apply pw_below_drewN | apply below_drew1) | exact HB.out)) hb); have n2_ := Aside0.mk (hbox); have n3_ := Aside0.mk ((by rw [hg]; exact (below_size (by repeat (first | (with_reducible first | exact HB.out | apply below_alloc | apply pw_below_drewN | apply below_drew1) | exact HB.out))) : w.heap.size ≤ gb358)); have n4_ := Aside0.mk ((by rw [hg]; exact (below_size (by repeat (first | (with_reducible first | exact HB.out | apply below_alloc | apply pw_below_drewN | apply below_drew1) | exact HB.out))) : w.heap.size ≤ gb358)); clear HO_36; clear HB; have HO_36 := n0_; have HB := n1_; have BK358 := n2_; have GW358 := n3_; have GE358 := n4_; clear n0_ n1_ n2_ n3_ n4_; clear hb hbox hg; have hcz25_0 : w24.cell? ⟨gb358, 0, none⟩ = some (.int .i64 0) := (blk_cell BK358.out 0).trans rfl; have hcz25_1 : w24.cell? ⟨gb358, 1, none⟩ = some (.string (⟨#[]⟩ : ByteArray)) := (blk_cell BK358.out 1).trans rfl; have hcz25_2 : w24.cell? ⟨gb358, 2, none⟩ = some (.int .i64 0) := (blk_cell BK358.out 2).trans rfl; have hcz25_3 : w24.cell? ⟨gb358, 3, none⟩ = some (.int .i64 0) := (blk_cell BK358.out 3).trans rfl; have hfz25_0 := blk_frozen BK358.out 0; have hfz25_1 := blk_frozen BK358.out 1; have hfz25_2 := blk_frozen BK358.out 2; have hfz25_3 := blk_frozen BK358.out 3)))
                          go_loopg [9, 10] k2 (fun kq v9 v10 w' => ∃ (x9_3 : Int) (x10_3 : Int), v9 = .int .i64 x9_3 ∧ v10 = .int .i64 x10_3 ∧ Aside0 (erewhilelaw34_CalruleLines.l1 kq l0 x8_2 x9_3 x10_3 t352 (t352.length : Int) x38_2 ((rd_T46 t352 x38_2).f0) ((rd_T46 t352 x38_2).f1) ((rd_T46 t352 x38_2).f2) ((rd_T46 t352 x38_2).f3) = some r) ∧ Aside0 (kq ≤ k2) ∧ Aside0 (Kd.R k46 46 w' w.heap.size (fun k_ => k_ ≠ gb358) (.slice (some ad357) t352.length co16) t352) ∧ Aside0 (w'.heap[gb358]? = some (.cells #[.int .i64 ((rd_T46 t352 x38_2).f0), .string ((rd_T46 t352 x38_2).f1), .int .i64 ((rd_T46 t352 x38_2).f2), .int .i64 ((rd_T46 t352 x38_2).f3)] 46 (0, 0))) ∧ Aside0 (Below w.heap.size w w'))
                          case atStart => exact ⟨(x9_2), (x10_2), (by first | rfl | (simp; done) | (simp [*]; done)), (by first | rfl | (simp; done) | (simp [*]; done)), H', ⟨Nat.le_refl _⟩, ⟨by (with_reducible repeat (first | apply Kd.R_alloc | apply Kd.R_drewN | apply Kd.R_drew)); exact Kd.R_mono (Kd.R_far (p := ⟨gb358, 3, none⟩) (Kd.R_far (p := ⟨gb358, 2, none⟩) (Kd.R_far (p := ⟨gb358, 1, none⟩) (Kd.R_far (p := ⟨gb358, 0, none⟩) (Kd.R_mono HO_36.out (fun k_ hk => (⟨hk, hk.2⟩ : _ ∧ k_ ≠ gb358))) (fun _ hk => hk.2) (.int .i64 ((rd_T46 t352 x38_2).f0))) (fun _ hk => hk.2) (.string ((rd_T46 t352 x38_2).f1))) (fun _ hk => hk.2) (.int .i64 ((rd_T46 t352 x38_2).f2))) (fun _ hk => hk.2) (.int .i64 ((rd_T46 t352 x38_2).f3))) (fun _ hk => hk.1.2)⟩, ⟨by (with_reducible repeat (first | refine blk_drewN ?_ _ | refine blk_drew ?_ | refine blk_alloc ?_ _)); refine blk_put (cs := #[.int .i64 ((rd_T46 t352 x38_2).f0), .string ((rd_T46 t352 x38_2).f1), .int .i64 ((rd_T46 t352 x38_2).f2), .int .i64 0]) ?_ 3 _ rfl; (with_reducible repeat (first | refine blk_drewN ?_ _ | refine blk_drew ?_ | refine blk_alloc ?_ _)); refine blk_put (cs := #[.int .i64 ((rd_T46 t352 x38_2).f0), .string ((rd_T46 t352 x38_2).f1), .int .i64 0, .int .i64 0]) ?_ 2 _ rfl; (with_reducible repeat (first | refine blk_drewN ?_ _ | refine blk_drew ?_ | refine blk_alloc ?_ _)); refine blk_put (cs := #[.int .i64 ((rd_T46 t352 x38_2).f0), .string (⟨#[]⟩ : ByteArray), .int .i64 0, .int .i64 0]) ?_ 1 _ rfl; (with_reducible repeat (first | refine blk_drewN ?_ _ | refine blk_drew ?_ | refine blk_alloc ?_ _)); refine blk_put (cs := #[.int .i64 0, .string (⟨#[]⟩ : ByteArray), .int .i64 0, .int .i64 0]) ?_ 0 _ rfl; (with_reducible repeat (first | refine blk_drewN ?_ _ | refine blk_drew ?_ | refine blk_alloc ?_ _)); exact BK358.out⟩, ⟨by repeat (first | (with_reducible first | exact HB.out | apply below_alloc | apply pw_below_drewN | apply below_drew1 | refine below_set ?_ GE358.out) | exact HB.out)⟩⟩
                          case round =>
                            clear H'
                            try clear c1
                            try clear c2
                            try clear p2
                            try clear p3
                            try clear q3
                            try clear hx3
                            try clear c4
                            try clear p6
                            try clear c7
                            try clear c10
                            try clear c11
                            try clear c11b0
                            try clear c11b1
                            try clear c13
                            try clear c13b0
                            try clear c13b1
                            try clear c17
                            try clear c17b0
                            try clear c18
                            try clear c18b0
                            try clear c19
                            try clear c19b0
                            try clear c20
                            try clear c20b0
                            try clear c20b1
                            try clear c23
                            try clear c23b0
                            try clear c23b1
                            try clear hcz22_0
                            try clear hcz22_1
                            try clear hcz22_2
                            try clear hcz22_3
                            try clear hcz25_0
                            try clear hcz25_1
                            try clear hcz25_2
                            try clear hcz25_3
                            try clear hfz22_0
                            try clear hfz22_1
                            try clear hfz22_2
                            try clear hfz22_3
                            try clear hfz25_0
                            try clear hfz25_1
                            try clear hfz25_2
                            try clear hfz25_3
                            try clear hx357_0
                            try clear hx357_1
                            try clear hx357_2
                            try clear hx357_3
                            try clear p2
                            try clear p357
                            try clear q357
                            obtain ⟨x9_3, x10_3, rfl, rfl, HA, HK3, HO_36, BK358, HB⟩ := hrel
                            cases gk with
                            | zero => exact absurd HA.out (by simp [erewhilelaw34_CalruleLines.l1])
                            | succ k3 =>
                              have H := HA.out
                              clear HA
                              simp only [erewhilelaw34_CalruleLines.l1] at H
                              by_cases c26 : x10_3 < (l0.length : Int)
                              · rw [if_pos c26] at H
                                have c26b0 : decide (x10_3 < (l0.length : Int)) = true := decide_eq_true c26
                                clear c26
                                by_cases c27 : 0 ≤ x10_3
                                · rw [if_pos c27] at H
                                  have c27b0 : decide (0 ≤ x10_3) = true := decide_eq_true c27
                                  clear c27
                                  obtain ⟨ji28, hji28⟩ : ∃ j_ : Int, (mn ((rd_T33 l0 x10_3).f1) 1) = j_ := ⟨_, rfl⟩
                                  replace H : (if x9_3 = (wrap64 (1 + (ji28))) then (erewhilelaw34_CalruleLines.l1 k3 l0 x8_2 0 (wrap64 (x10_3 + 1)) t352 (t352.length : Int) x38_2 ((rd_T46 t352 x38_2).f0) ((rd_T46 t352 x38_2).f1) ((rd_T46 t352 x38_2).f2) ((rd_T46 t352 x38_2).f3)) else (if x10_3 ≥ (l0.length : Int) then (some false) else (if x9_3 = 0 then (if ((rd_T33 l0 x10_3).f1) > 0 then (if ((rd_T46 t352 x38_2).f2) = ((rd_T33 l0 x10_3).f1) then (if x9_3 = (ji28) then (if ((rd_T46 t352 x38_2).f2) = ((rd_T33 l0 x10_3).f2) then (erewhilelaw34_CalruleLines.l0 k3 l0 x8_2 (wrap64 (x9_3 + 1)) x10_3 t352 (t352.length : Int) (wrap64 (x38_2 + 1))) else (some false)) else (erewhilelaw34_CalruleLines.l0 k3 l0 x8_2 (wrap64 (x9_3 + 1)) x10_3 t352 (t352.length : Int) (wrap64 (x38_2 + 1)))) else (some false)) else (if x9_3 = (ji28) then (if ((rd_T46 t352 x38_2).f2) = ((rd_T33 l0 x10_3).f2) then (erewhilelaw34_CalruleLines.l0 k3 l0 x8_2 (wrap64 (x9_3 + 1)) x10_3 t352 (t352.length : Int) (wrap64 (x38_2 + 1))) else (some false)) else (erewhilelaw34_CalruleLines.l0 k3 l0 x8_2 (wrap64 (x9_3 + 1)) x10_3 t352 (t352.length : Int) (wrap64 (x38_2 + 1))))) else (if x9_3 = (ji28) then (if ((rd_T46 t352 x38_2).f2) = ((rd_T33 l0 x10_3).f2) then (erewhilelaw34_CalruleLines.l0 k3 l0 x8_2 (wrap64 (x9_3 + 1)) x10_3 t352 (t352.length : Int) (wrap64 (x38_2 + 1))) else (some false)) else (erewhilelaw34_CalruleLines.l0 k3 l0 x8_2 (wrap64 (x9_3 + 1)) x10_3 t352 (t352.length : Int) (wrap64 (x38_2 + 1))))))) = some r := by first | (rw [hji28] at H; exact H) | (simp only [hji28] at H ⊢; exact H)
                                  have hji28_ : (if 1 < ((rd_T33 l0 x10_3).f1) then 1 else ((rd_T33 l0 x10_3).f1)) = ji28 := hji28
                                  by_cases c29 : x9_3 = (wrap64 (1 + (ji28)))
                                  · rw [if_pos c29] at H
                                    have c29b0 : (x9_3 == (wrap64 (1 + (ji28)))) = true := beq_iff_eq.mpr c29
                                    have c29b1 : (x9_3 != (wrap64 (1 + (ji28)))) = false := bne_eq_false_iff_eq.mpr c29
                                    clear c29
                                    have H' := Aside0.mk H
                                    clear H
                                    have p359 : 0 ≤ (x10_3 : Int) := of_decide_eq_true (by first | (with_reducible assumption) | assumption)
                                    have q359 : x10_3 < (l0.length : Int) := of_decide_eq_true (by first | (with_reducible assumption) | assumption)
                                    obtain ⟨ad359, e359, hx359_0, hx359_1, hx359_2⟩ := at_T33 HR0.out x10_3 p359 q359
                                    cases e359
                                    replace hx359_0 := (HB.out.cell (World.block_lt_of_cell? w _ hx359_0)).trans hx359_0
                                    replace hx359_1 := (HB.out.cell (World.block_lt_of_cell? w _ hx359_1)).trans hx359_1
                                    replace hx359_2 := (HB.out.cell (World.block_lt_of_cell? w _ hx359_2)).trans hx359_2
                                    replace p359 := eq_true p359
                                    replace q359 := eq_true q359
                                    go_wp2
                                    repeat (go_quiet (fail); try go_wp2)
                                    go_roundg k3
                                    case measure => have := HJ1.out; have := HK2.out; have := HK3.out; omega
                                    case rel => exact ⟨(0), (wrap64 (x10_3 + 1)), (by first | rfl | (simp; done) | (simp [*]; done)), (by first | rfl | (simp; done) | (simp [*]; done)), H', ⟨by have := HJ1.out; have := HK2.out; have := HK3.out; omega⟩, ⟨by (with_reducible repeat (first | apply Kd.R_alloc | apply Kd.R_drewN | apply Kd.R_drew)); exact HO_36.out⟩, ⟨by (with_reducible repeat (first | refine blk_drewN ?_ _ | refine blk_drew ?_ | refine blk_alloc ?_ _)); exact BK358.out⟩, ⟨by repeat (first | (with_reducible first | exact HB.out | apply below_alloc | apply pw_below_drewN | apply below_drew1 | refine below_set ?_ GE358.out) | exact HB.out)⟩⟩
                                  · rw [if_neg c29] at H
                                    have c29b0 : (x9_3 == (wrap64 (1 + (ji28)))) = false := beq_eq_false_iff_ne.mpr c29
                                    have c29b1 : (x9_3 != (wrap64 (1 + (ji28)))) = true := bne_iff_ne.mpr c29
                                    by_cases c30 : x10_3 ≥ (l0.length : Int)
                                    · rw [if_pos c30] at H
                                      have c30b0 : decide ((l0.length : Int) ≤ x10_3) = true := decide_eq_true c30
                                      clear c30
                                      obtain rfl := Option.some.inj H
                                      have p359 : 0 ≤ (x10_3 : Int) := of_decide_eq_true (by first | (with_reducible assumption) | assumption)
                                      have q359 : x10_3 < (l0.length : Int) := of_decide_eq_true (by first | (with_reducible assumption) | assumption)
                                      obtain ⟨ad359, e359, hx359_0, hx359_1, hx359_2⟩ := at_T33 HR0.out x10_3 p359 q359
                                      cases e359
                                      replace hx359_0 := (HB.out.cell (World.block_lt_of_cell? w _ hx359_0)).trans hx359_0
                                      replace hx359_1 := (HB.out.cell (World.block_lt_of_cell? w _ hx359_1)).trans hx359_1
                                      replace hx359_2 := (HB.out.cell (World.block_lt_of_cell? w _ hx359_2)).trans hx359_2
                                      replace p359 := eq_true p359
                                      replace q359 := eq_true q359
                                      go_wp2
                                      repeat (go_quiet (fail); try go_wp2)
                                      go_ret
                                      exact ⟨by first | rfl | (simp [errW_none, errW_some] <;> rfl) | (simp only [← hji28]; first | rfl | (simp [errW_none, errW_some] <;> rfl)) | (simp [*, errW_none, errW_some] <;> rfl), by repeat (first | (with_reducible first | exact HB.out | apply below_alloc | apply pw_below_drewN | apply below_drew1 | refine below_set ?_ GE358.out) | exact HB.out)⟩
                                    · rw [if_neg c30] at H
                                      have c30b0 : decide ((l0.length : Int) ≤ x10_3) = false := decide_eq_false c30
                                      clear c30
                                      by_cases c31 : x9_3 = 0
                                      · rw [if_pos c31] at H
                                        have c31b0 : (x9_3 == 0) = true := beq_iff_eq.mpr c31
                                        have c31b1 : (x9_3 != 0) = false := bne_eq_false_iff_eq.mpr c31
                                        clear c31
                                        by_cases c32 : ((rd_T33 l0 x10_3).f1) > 0
                                        · rw [if_pos c32] at H
                                          have c32b0 : decide (0 < ((rd_T33 l0 x10_3).f1)) = true := decide_eq_true c32
                                          clear c32
                                          by_cases c33 : ((rd_T46 t352 x38_2).f2) = ((rd_T33 l0 x10_3).f1)
                                          · rw [if_pos c33] at H
                                            have c33b0 : (((rd_T46 t352 x38_2).f2) == ((rd_T33 l0 x10_3).f1)) = true := beq_iff_eq.mpr c33
                                            have c33b1 : (((rd_T46 t352 x38_2).f2) != ((rd_T33 l0 x10_3).f1)) = false := bne_eq_false_iff_eq.mpr c33
                                            clear c33
                                            by_cases c35 : x9_3 = (ji28)
                                            · rw [if_pos c35] at H
                                              have c35b0 : (x9_3 == (ji28)) = true := beq_iff_eq.mpr c35
                                              have c35b1 : (x9_3 != (ji28)) = false := bne_eq_false_iff_eq.mpr c35
                                              clear c35
                                              by_cases c36 : ((rd_T46 t352 x38_2).f2) = ((rd_T33 l0 x10_3).f2)
                                              · rw [if_pos c36] at H
                                                have c36b0 : (((rd_T46 t352 x38_2).f2) == ((rd_T33 l0 x10_3).f2)) = true := beq_iff_eq.mpr c36
                                                have c36b1 : (((rd_T46 t352 x38_2).f2) != ((rd_T33 l0 x10_3).f2)) = false := bne_eq_false_iff_eq.mpr c36
                                                clear c36
                                                have H' := Aside0.mk H
                                                clear H
                                                have p359 : 0 ≤ (x10_3 : Int) := of_decide_eq_true (by first | (with_reducible assumption) | assumption)
                                                have q359 : x10_3 < (l0.length : Int) := of_decide_eq_true (by first | (with_reducible assumption) | assumption)
                                                obtain ⟨ad359, e359, hx359_0, hx359_1, hx359_2⟩ := at_T33 HR0.out x10_3 p359 q359
                                                cases e359
                                                replace hx359_0 := (HB.out.cell (World.block_lt_of_cell? w _ hx359_0)).trans hx359_0
                                                replace hx359_1 := (HB.out.cell (World.block_lt_of_cell? w _ hx359_1)).trans hx359_1
                                                replace hx359_2 := (HB.out.cell (World.block_lt_of_cell? w _ hx359_2)).trans hx359_2
                                                replace p359 := eq_true p359
                                                replace q359 := eq_true q359
                                                have p360 : 0 ≤ (x10_3 : Int) := of_decide_eq_true (by first | (with_reducible assumption) | assumption)
                                                have q360 : x10_3 < (l0.length : Int) := of_decide_eq_true (by first | (with_reducible assumption) | assumption)
                                                obtain ⟨ad360, e360, hx360_0, hx360_1, hx360_2⟩ := at_T33 HR0.out x10_3 p360 q360
                                                obtain rfl : ad359 = ad360 := (by injection e360)
                                                replace hx360_0 := (HB.out.cell (World.block_lt_of_cell? w _ hx360_0)).trans hx360_0
                                                replace hx360_1 := (HB.out.cell (World.block_lt_of_cell? w _ hx360_1)).trans hx360_1
                                                replace hx360_2 := (HB.out.cell (World.block_lt_of_cell? w _ hx360_2)).trans hx360_2
                                                replace p360 := eq_true p360
                                                replace q360 := eq_true q360
                                                have hcz37_0 : wr.cell? ⟨gb358, 0, none⟩ = some (.int .i64 ((rd_T46 t352 x38_2).f0)) := (blk_cell BK358.out 0).trans rfl
                                                have hcz37_1 : wr.cell? ⟨gb358, 1, none⟩ = some (.string ((rd_T46 t352 x38_2).f1)) := (blk_cell BK358.out 1).trans rfl
                                                have hcz37_2 : wr.cell? ⟨gb358, 2, none⟩ = some (.int .i64 ((rd_T46 t352 x38_2).f2)) := (blk_cell BK358.out 2).trans rfl
                                                have hcz37_3 : wr.cell? ⟨gb358, 3, none⟩ = some (.int .i64 ((rd_T46 t352 x38_2).f3)) := (blk_cell BK358.out 3).trans rfl
                                                have hfz37_0 := blk_frozen BK358.out 0
                                                have hfz37_1 := blk_frozen BK358.out 1
                                                have hfz37_2 := blk_frozen BK358.out 2
                                                have hfz37_3 := blk_frozen BK358.out 3
                                                have p361 : 0 ≤ (x10_3 : Int) := of_decide_eq_true (by first | (with_reducible assumption) | assumption)
                                                have q361 : x10_3 < (l0.length : Int) := of_decide_eq_true (by first | (with_reducible assumption) | assumption)
                                                obtain ⟨ad361, e361, hx361_0, hx361_1, hx361_2⟩ := at_T33 HR0.out x10_3 p361 q361
                                                obtain rfl : ad359 = ad361 := (by injection e361)
                                                replace hx361_0 := (HB.out.cell (World.block_lt_of_cell? w _ hx361_0)).trans hx361_0
                                                replace hx361_1 := (HB.out.cell (World.block_lt_of_cell? w _ hx361_1)).trans hx361_1
                                                replace hx361_2 := (HB.out.cell (World.block_lt_of_cell? w _ hx361_2)).trans hx361_2
                                                replace p361 := eq_true p361
                                                replace q361 := eq_true q361
                                                have p362 : 0 ≤ (x10_3 : Int) := of_decide_eq_true (by first | (with_reducible assumption) | assumption)
                                                have q362 : x10_3 < (l0.length : Int) := of_decide_eq_true (by first | (with_reducible assumption) | assumption)
                                                obtain ⟨ad362, e362, hx362_0, hx362_1, hx362_2⟩ := at_T33 HR0.out x10_3 p362 q362
                                                obtain rfl : ad359 = ad362 := (by injection e362)
                                                replace hx362_0 := (HB.out.cell (World.block_lt_of_cell? w _ hx362_0)).trans hx362_0
                                                replace hx362_1 := (HB.out.cell (World.block_lt_of_cell? w _ hx362_1)).trans hx362_1
                                                replace hx362_2 := (HB.out.cell (World.block_lt_of_cell? w _ hx362_2)).trans hx362_2
                                                replace p362 := eq_true p362
                                                replace q362 := eq_true q362
                                                have p363 : 0 ≤ (x10_3 : Int) := of_decide_eq_true (by first | (with_reducible assumption) | assumption)
                                                have q363 : x10_3 < (l0.length : Int) := of_decide_eq_true (by first | (with_reducible assumption) | assumption)
                                                obtain ⟨ad363, e363, hx363_0, hx363_1, hx363_2⟩ := at_T33 HR0.out x10_3 p363 q363
                                                obtain rfl : ad359 = ad363 := (by injection e363)
                                                replace hx363_0 := (HB.out.cell (World.block_lt_of_cell? w _ hx363_0)).trans hx363_0
                                                replace hx363_1 := (HB.out.cell (World.block_lt_of_cell? w _ hx363_1)).trans hx363_1
                                                replace hx363_2 := (HB.out.cell (World.block_lt_of_cell? w _ hx363_2)).trans hx363_2
                                                replace p363 := eq_true p363
                                                replace q363 := eq_true q363
                                                go_wp2
                                                repeat (go_quiet (fail); try go_wp2)
                                                go_roundg k3
                                                case measure => have := HJ1.out; have := HK2.out; have := HK3.out; omega
                                                case rel => exact ⟨(x8_2), (wrap64 (x9_3 + 1)), (x10_3), (wrap64 (x38_2 + 1)), (by first | rfl | (simp; done) | (simp [*]; done)), (by first | rfl | (simp; done) | (simp [*]; done)), (by first | rfl | (simp; done) | (simp [*]; done)), (by first | rfl | (simp; done) | (simp [*]; done)), H', ⟨by have := HJ1.out; have := HK2.out; have := HK3.out; omega⟩, ⟨by (with_reducible repeat (first | apply Kd.R_alloc | apply Kd.R_drewN | apply Kd.R_drew)); exact Kd.R_mono HO_36.out (fun _ hk => trivial)⟩, ⟨by repeat (first | (with_reducible first | exact HB.out | apply below_alloc | apply pw_below_drewN | apply below_drew1 | refine below_set ?_ GE358.out) | exact HB.out)⟩⟩
                                              · rw [if_neg c36] at H
                                                have c36b0 : (((rd_T46 t352 x38_2).f2) == ((rd_T33 l0 x10_3).f2)) = false := beq_eq_false_iff_ne.mpr c36
                                                have c36b1 : (((rd_T46 t352 x38_2).f2) != ((rd_T33 l0 x10_3).f2)) = true := bne_iff_ne.mpr c36
                                                obtain rfl := Option.some.inj H
                                                have p359 : 0 ≤ (x10_3 : Int) := of_decide_eq_true (by first | (with_reducible assumption) | assumption)
                                                have q359 : x10_3 < (l0.length : Int) := of_decide_eq_true (by first | (with_reducible assumption) | assumption)
                                                obtain ⟨ad359, e359, hx359_0, hx359_1, hx359_2⟩ := at_T33 HR0.out x10_3 p359 q359
                                                cases e359
                                                replace hx359_0 := (HB.out.cell (World.block_lt_of_cell? w _ hx359_0)).trans hx359_0
                                                replace hx359_1 := (HB.out.cell (World.block_lt_of_cell? w _ hx359_1)).trans hx359_1
                                                replace hx359_2 := (HB.out.cell (World.block_lt_of_cell? w _ hx359_2)).trans hx359_2
                                                replace p359 := eq_true p359
                                                replace q359 := eq_true q359
                                                have p360 : 0 ≤ (x10_3 : Int) := of_decide_eq_true (by first | (with_reducible assumption) | assumption)
                                                have q360 : x10_3 < (l0.length : Int) := of_decide_eq_true (by first | (with_reducible assumption) | assumption)
                                                obtain ⟨ad360, e360, hx360_0, hx360_1, hx360_2⟩ := at_T33 HR0.out x10_3 p360 q360
                                                obtain rfl : ad359 = ad360 := (by injection e360)
                                                replace hx360_0 := (HB.out.cell (World.block_lt_of_cell? w _ hx360_0)).trans hx360_0
                                                replace hx360_1 := (HB.out.cell (World.block_lt_of_cell? w _ hx360_1)).trans hx360_1
                                                replace hx360_2 := (HB.out.cell (World.block_lt_of_cell? w _ hx360_2)).trans hx360_2
                                                replace p360 := eq_true p360
                                                replace q360 := eq_true q360
                                                have hcz38_0 : wr.cell? ⟨gb358, 0, none⟩ = some (.int .i64 ((rd_T46 t352 x38_2).f0)) := (blk_cell BK358.out 0).trans rfl
                                                have hcz38_1 : wr.cell? ⟨gb358, 1, none⟩ = some (.string ((rd_T46 t352 x38_2).f1)) := (blk_cell BK358.out 1).trans rfl
                                                have hcz38_2 : wr.cell? ⟨gb358, 2, none⟩ = some (.int .i64 ((rd_T46 t352 x38_2).f2)) := (blk_cell BK358.out 2).trans rfl
                                                have hcz38_3 : wr.cell? ⟨gb358, 3, none⟩ = some (.int .i64 ((rd_T46 t352 x38_2).f3)) := (blk_cell BK358.out 3).trans rfl
                                                have hfz38_0 := blk_frozen BK358.out 0
                                                have hfz38_1 := blk_frozen BK358.out 1
                                                have hfz38_2 := blk_frozen BK358.out 2
                                                have hfz38_3 := blk_frozen BK358.out 3
                                                have p361 : 0 ≤ (x10_3 : Int) := of_decide_eq_true (by first | (with_reducible assumption) | assumption)
                                                have q361 : x10_3 < (l0.length : Int) := of_decide_eq_true (by first | (with_reducible assumption) | assumption)
                                                obtain ⟨ad361, e361, hx361_0, hx361_1, hx361_2⟩ := at_T33 HR0.out x10_3 p361 q361
                                                obtain rfl : ad359 = ad361 := (by injection e361)
                                                replace hx361_0 := (HB.out.cell (World.block_lt_of_cell? w _ hx361_0)).trans hx361_0
                                                replace hx361_1 := (HB.out.cell (World.block_lt_of_cell? w _ hx361_1)).trans hx361_1
                                                replace hx361_2 := (HB.out.cell (World.block_lt_of_cell? w _ hx361_2)).trans hx361_2
                                                replace p361 := eq_true p361
                                                replace q361 := eq_true q361
                                                have p362 : 0 ≤ (x10_3 : Int) := of_decide_eq_true (by first | (with_reducible assumption) | assumption)
                                                have q362 : x10_3 < (l0.length : Int) := of_decide_eq_true (by first | (with_reducible assumption) | assumption)
                                                obtain ⟨ad362, e362, hx362_0, hx362_1, hx362_2⟩ := at_T33 HR0.out x10_3 p362 q362
                                                obtain rfl : ad359 = ad362 := (by injection e362)
                                                replace hx362_0 := (HB.out.cell (World.block_lt_of_cell? w _ hx362_0)).trans hx362_0
                                                replace hx362_1 := (HB.out.cell (World.block_lt_of_cell? w _ hx362_1)).trans hx362_1
                                                replace hx362_2 := (HB.out.cell (World.block_lt_of_cell? w _ hx362_2)).trans hx362_2
                                                replace p362 := eq_true p362
                                                replace q362 := eq_true q362
                                                have p363 : 0 ≤ (x10_3 : Int) := of_decide_eq_true (by first | (with_reducible assumption) | assumption)
                                                have q363 : x10_3 < (l0.length : Int) := of_decide_eq_true (by first | (with_reducible assumption) | assumption)
                                                obtain ⟨ad363, e363, hx363_0, hx363_1, hx363_2⟩ := at_T33 HR0.out x10_3 p363 q363
                                                obtain rfl : ad359 = ad363 := (by injection e363)
                                                replace hx363_0 := (HB.out.cell (World.block_lt_of_cell? w _ hx363_0)).trans hx363_0
                                                replace hx363_1 := (HB.out.cell (World.block_lt_of_cell? w _ hx363_1)).trans hx363_1
                                                replace hx363_2 := (HB.out.cell (World.block_lt_of_cell? w _ hx363_2)).trans hx363_2
                                                replace p363 := eq_true p363
                                                replace q363 := eq_true q363
                                                go_wp2
                                                repeat (go_quiet (fail); try go_wp2)
                                                go_ret
                                                exact ⟨by first | rfl | (simp [errW_none, errW_some] <;> rfl) | (simp only [← hji28]; first | rfl | (simp [errW_none, errW_some] <;> rfl)) | (simp [*, errW_none, errW_some] <;> rfl), by repeat (first | (with_reducible first | exact HB.out | apply below_alloc | apply pw_below_drewN | apply below_drew1 | refine below_set ?_ GE358.out) | exact HB.out)⟩
                                            · rw [if_neg c35] at H
                                              have c35b0 : (x9_3 == (ji28)) = false := beq_eq_false_iff_ne.mpr c35
                                              have c35b1 : (x9_3 != (ji28)) = true := bne_iff_ne.mpr c35
                                              have H' := Aside0.mk H
                                              clear H
                                              have p359 : 0 ≤ (x10_3 : Int) := of_decide_eq_true (by first | (with_reducible assumption) | assumption)
                                              have q359 : x10_3 < (l0.length : Int) := of_decide_eq_true (by first | (with_reducible assumption) | assumption)
                                              obtain ⟨ad359, e359, hx359_0, hx359_1, hx359_2⟩ := at_T33 HR0.out x10_3 p359 q359
                                              cases e359
                                              replace hx359_0 := (HB.out.cell (World.block_lt_of_cell? w _ hx359_0)).trans hx359_0
                                              replace hx359_1 := (HB.out.cell (World.block_lt_of_cell? w _ hx359_1)).trans hx359_1
                                              replace hx359_2 := (HB.out.cell (World.block_lt_of_cell? w _ hx359_2)).trans hx359_2
                                              replace p359 := eq_true p359
                                              replace q359 := eq_true q359
                                              have p360 : 0 ≤ (x10_3 : Int) := of_decide_eq_true (by first | (with_reducible assumption) | assumption)
                                              have q360 : x10_3 < (l0.length : Int) := of_decide_eq_true (by first | (with_reducible assumption) | assumption)
                                              obtain ⟨ad360, e360, hx360_0, hx360_1, hx360_2⟩ := at_T33 HR0.out x10_3 p360 q360
                                              obtain rfl : ad359 = ad360 := (by injection e360)
                                              replace hx360_0 := (HB.out.cell (World.block_lt_of_cell? w _ hx360_0)).trans hx360_0
                                              replace hx360_1 := (HB.out.cell (World.block_lt_of_cell? w _ hx360_1)).trans hx360_1
                                              replace hx360_2 := (HB.out.cell (World.block_lt_of_cell? w _ hx360_2)).trans hx360_2
                                              replace p360 := eq_true p360
                                              replace q360 := eq_true q360
                                              have hcz39_0 : wr.cell? ⟨gb358, 0, none⟩ = some (.int .i64 ((rd_T46 t352 x38_2).f0)) := (blk_cell BK358.out 0).trans rfl
                                              have hcz39_1 : wr.cell? ⟨gb358, 1, none⟩ = some (.string ((rd_T46 t352 x38_2).f1)) := (blk_cell BK358.out 1).trans rfl
                                              have hcz39_2 : wr.cell? ⟨gb358, 2, none⟩ = some (.int .i64 ((rd_T46 t352 x38_2).f2)) := (blk_cell BK358.out 2).trans rfl
                                              have hcz39_3 : wr.cell? ⟨gb358, 3, none⟩ = some (.int .i64 ((rd_T46 t352 x38_2).f3)) := (blk_cell BK358.out 3).trans rfl
                                              have hfz39_0 := blk_frozen BK358.out 0
                                              have hfz39_1 := blk_frozen BK358.out 1
                                              have hfz39_2 := blk_frozen BK358.out 2
                                              have hfz39_3 := blk_frozen BK358.out 3
                                              have p361 : 0 ≤ (x10_3 : Int) := of_decide_eq_true (by first | (with_reducible assumption) | assumption)
                                              have q361 : x10_3 < (l0.length : Int) := of_decide_eq_true (by first | (with_reducible assumption) | assumption)
                                              obtain ⟨ad361, e361, hx361_0, hx361_1, hx361_2⟩ := at_T33 HR0.out x10_3 p361 q361
                                              obtain rfl : ad359 = ad361 := (by injection e361)
                                              replace hx361_0 := (HB.out.cell (World.block_lt_of_cell? w _ hx361_0)).trans hx361_0
                                              replace hx361_1 := (HB.out.cell (World.block_lt_of_cell? w _ hx361_1)).trans hx361_1
                                              replace hx361_2 := (HB.out.cell (World.block_lt_of_cell? w _ hx361_2)).trans hx361_2
                                              replace p361 := eq_true p361
                                              replace q361 := eq_true q361
                                              have p362 : 0 ≤ (x10_3 : Int) := of_decide_eq_true (by first | (with_reducible assumption) | assumption)
                                              have q362 : x10_3 < (l0.length : Int) := of_decide_eq_true (by first | (with_reducible assumption) | assumption)
                                              obtain ⟨ad362, e362, hx362_0, hx362_1, hx362_2⟩ := at_T33 HR0.out x10_3 p362 q362
                                              obtain rfl : ad359 = ad362 := (by injection e362)
                                              replace hx362_0 := (HB.out.cell (World.block_lt_of_cell? w _ hx362_0)).trans hx362_0
                                              replace hx362_1 := (HB.out.cell (World.block_lt_of_cell? w _ hx362_1)).trans hx362_1
                                              replace hx362_2 := (HB.out.cell (World.block_lt_of_cell? w _ hx362_2)).trans hx362_2
                                              replace p362 := eq_true p362
                                              replace q362 := eq_true q362
                                              go_wp2
                                              repeat (go_quiet (fail); try go_wp2)
                                              go_roundg k3
                                              case measure => have := HJ1.out; have := HK2.out; have := HK3.out; omega
                                              case rel => exact ⟨(x8_2), (wrap64 (x9_3 + 1)), (x10_3), (wrap64 (x38_2 + 1)), (by first | rfl | (simp; done) | (simp [*]; done)), (by first | rfl | (simp; done) | (simp [*]; done)), (by first | rfl | (simp; done) | (simp [*]; done)), (by first | rfl | (simp; done) | (simp [*]; done)), H', ⟨by have := HJ1.out; have := HK2.out; have := HK3.out; omega⟩, ⟨by (with_reducible repeat (first | apply Kd.R_alloc | apply Kd.R_drewN | apply Kd.R_drew)); exact Kd.R_mono HO_36.out (fun _ hk => trivial)⟩, ⟨by repeat (first | (with_reducible first | exact HB.out | apply below_alloc | apply pw_below_drewN | apply below_drew1 | refine below_set ?_ GE358.out) | exact HB.out)⟩⟩
                                          · rw [if_neg c33] at H
                                            have c33b0 : (((rd_T46 t352 x38_2).f2) == ((rd_T33 l0 x10_3).f1)) = false := beq_eq_false_iff_ne.mpr c33
                                            have c33b1 : (((rd_T46 t352 x38_2).f2) != ((rd_T33 l0 x10_3).f1)) = true := bne_iff_ne.mpr c33
                                            obtain rfl := Option.some.inj H
                                            have p359 : 0 ≤ (x10_3 : Int) := of_decide_eq_true (by first | (with_reducible assumption) | assumption)
                                            have q359 : x10_3 < (l0.length : Int) := of_decide_eq_true (by first | (with_reducible assumption) | assumption)
                                            obtain ⟨ad359, e359, hx359_0, hx359_1, hx359_2⟩ := at_T33 HR0.out x10_3 p359 q359
                                            cases e359
                                            replace hx359_0 := (HB.out.cell (World.block_lt_of_cell? w _ hx359_0)).trans hx359_0
                                            replace hx359_1 := (HB.out.cell (World.block_lt_of_cell? w _ hx359_1)).trans hx359_1
                                            replace hx359_2 := (HB.out.cell (World.block_lt_of_cell? w _ hx359_2)).trans hx359_2
                                            replace p359 := eq_true p359
                                            replace q359 := eq_true q359
                                            have p360 : 0 ≤ (x10_3 : Int) := of_decide_eq_true (by first | (with_reducible assumption) | assumption)
                                            have q360 : x10_3 < (l0.length : Int) := of_decide_eq_true (by first | (with_reducible assumption) | assumption)
                                            obtain ⟨ad360, e360, hx360_0, hx360_1, hx360_2⟩ := at_T33 HR0.out x10_3 p360 q360
                                            obtain rfl : ad359 = ad360 := (by injection e360)
                                            replace hx360_0 := (HB.out.cell (World.block_lt_of_cell? w _ hx360_0)).trans hx360_0
                                            replace hx360_1 := (HB.out.cell (World.block_lt_of_cell? w _ hx360_1)).trans hx360_1
                                            replace hx360_2 := (HB.out.cell (World.block_lt_of_cell? w _ hx360_2)).trans hx360_2
                                            replace p360 := eq_true p360
                                            replace q360 := eq_true q360
                                            have hcz40_0 : wr.cell? ⟨gb358, 0, none⟩ = some (.int .i64 ((rd_T46 t352 x38_2).f0)) := (blk_cell BK358.out 0).trans rfl
                                            have hcz40_1 : wr.cell? ⟨gb358, 1, none⟩ = some (.string ((rd_T46 t352 x38_2).f1)) := (blk_cell BK358.out 1).trans rfl
                                            have hcz40_2 : wr.cell? ⟨gb358, 2, none⟩ = some (.int .i64 ((rd_T46 t352 x38_2).f2)) := (blk_cell BK358.out 2).trans rfl
                                            have hcz40_3 : wr.cell? ⟨gb358, 3, none⟩ = some (.int .i64 ((rd_T46 t352 x38_2).f3)) := (blk_cell BK358.out 3).trans rfl
                                            have hfz40_0 := blk_frozen BK358.out 0
                                            have hfz40_1 := blk_frozen BK358.out 1
                                            have hfz40_2 := blk_frozen BK358.out 2
                                            have hfz40_3 := blk_frozen BK358.out 3
                                            have p361 : 0 ≤ (x10_3 : Int) := of_decide_eq_true (by first | (with_reducible assumption) | assumption)
                                            have q361 : x10_3 < (l0.length : Int) := of_decide_eq_true (by first | (with_reducible assumption) | assumption)
                                            obtain ⟨ad361, e361, hx361_0, hx361_1, hx361_2⟩ := at_T33 HR0.out x10_3 p361 q361
                                            obtain rfl : ad359 = ad361 := (by injection e361)
                                            replace hx361_0 := (HB.out.cell (World.block_lt_of_cell? w _ hx361_0)).trans hx361_0
                                            replace hx361_1 := (HB.out.cell (World.block_lt_of_cell? w _ hx361_1)).trans hx361_1
                                            replace hx361_2 := (HB.out.cell (World.block_lt_of_cell? w _ hx361_2)).trans hx361_2
                                            replace p361 := eq_true p361
                                            replace q361 := eq_true q361
                                            go_wp2
                                            repeat (go_quiet (fail); try go_wp2)
                                            go_ret
                                            exact ⟨by first | rfl | (simp [errW_none, errW_some] <;> rfl) | (simp only [← hji28]; first | rfl | (simp [errW_none, errW_some] <;> rfl)) | (simp [*, errW_none, errW_some] <;> rfl), by repeat (first | (with_reducible first | exact HB.out | apply below_alloc | apply pw_below_drewN | apply below_drew1 | refine below_set ?_ GE358.out) | exact HB.out)⟩
                                        · rw [if_neg c32] at H
                                          have c32b0 : decide (0 < ((rd_T33 l0 x10_3).f1)) = false := decide_eq_false c32
                                          clear c32
                                          by_cases c42 : x9_3 = (ji28)
                                          · rw [if_pos c42] at H
                                            have c42b0 : (x9_3 == (ji28)) = true := beq_iff_eq.mpr c42
                                            have c42b1 : (x9_3 != (ji28)) = false := bne_eq_false_iff_eq.mpr c42
                                            clear c42
                                            by_cases c43 : ((rd_T46 t352 x38_2).f2) = ((rd_T33 l0 x10_3).f2)
                                            · rw [if_pos c43] at H
                                              have c43b0 : (((rd_T46 t352 x38_2).f2) == ((rd_T33 l0 x10_3).f2)) = true := beq_iff_eq.mpr c43
                                              have c43b1 : (((rd_T46 t352 x38_2).f2) != ((rd_T33 l0 x10_3).f2)) = false := bne_eq_false_iff_eq.mpr c43
                                              clear c43
                                              have H' := Aside0.mk H
                                              clear H
                                              have p359 : 0 ≤ (x10_3 : Int) := of_decide_eq_true (by first | (with_reducible assumption) | assumption)
                                              have q359 : x10_3 < (l0.length : Int) := of_decide_eq_true (by first | (with_reducible assumption) | assumption)
                                              obtain ⟨ad359, e359, hx359_0, hx359_1, hx359_2⟩ := at_T33 HR0.out x10_3 p359 q359
                                              cases e359
                                              replace hx359_0 := (HB.out.cell (World.block_lt_of_cell? w _ hx359_0)).trans hx359_0
                                              replace hx359_1 := (HB.out.cell (World.block_lt_of_cell? w _ hx359_1)).trans hx359_1
                                              replace hx359_2 := (HB.out.cell (World.block_lt_of_cell? w _ hx359_2)).trans hx359_2
                                              replace p359 := eq_true p359
                                              replace q359 := eq_true q359
                                              have p360 : 0 ≤ (x10_3 : Int) := of_decide_eq_true (by first | (with_reducible assumption) | assumption)
                                              have q360 : x10_3 < (l0.length : Int) := of_decide_eq_true (by first | (with_reducible assumption) | assumption)
                                              obtain ⟨ad360, e360, hx360_0, hx360_1, hx360_2⟩ := at_T33 HR0.out x10_3 p360 q360
                                              obtain rfl : ad359 = ad360 := (by injection e360)
                                              replace hx360_0 := (HB.out.cell (World.block_lt_of_cell? w _ hx360_0)).trans hx360_0
                                              replace hx360_1 := (HB.out.cell (World.block_lt_of_cell? w _ hx360_1)).trans hx360_1
                                              replace hx360_2 := (HB.out.cell (World.block_lt_of_cell? w _ hx360_2)).trans hx360_2
                                              replace p360 := eq_true p360
                                              replace q360 := eq_true q360
                                              have p364 : 0 ≤ (x10_3 : Int) := of_decide_eq_true (by first | (with_reducible assumption) | assumption)
                                              have q364 : x10_3 < (l0.length : Int) := of_decide_eq_true (by first | (with_reducible assumption) | assumption)
                                              obtain ⟨ad364, e364, hx364_0, hx364_1, hx364_2⟩ := at_T33 HR0.out x10_3 p364 q364
                                              obtain rfl : ad359 = ad364 := (by injection e364)
                                              replace hx364_0 := (HB.out.cell (World.block_lt_of_cell? w _ hx364_0)).trans hx364_0
                                              replace hx364_1 := (HB.out.cell (World.block_lt_of_cell? w _ hx364_1)).trans hx364_1
                                              replace hx364_2 := (HB.out.cell (World.block_lt_of_cell? w _ hx364_2)).trans hx364_2
                                              replace p364 := eq_true p364
                                              replace q364 := eq_true q364
                                              have hcz44_0 : wr.cell? ⟨gb358, 0, none⟩ = some (.int .i64 ((rd_T46 t352 x38_2).f0)) := (blk_cell BK358.out 0).trans rfl
                                              have hcz44_1 : wr.cell? ⟨gb358, 1, none⟩ = some (.string ((rd_T46 t352 x38_2).f1)) := (blk_cell BK358.out 1).trans rfl
                                              have hcz44_2 : wr.cell? ⟨gb358, 2, none⟩ = some (.int .i64 ((rd_T46 t352 x38_2).f2)) := (blk_cell BK358.out 2).trans rfl
                                              have hcz44_3 : wr.cell? ⟨gb358, 3, none⟩ = some (.int .i64 ((rd_T46 t352 x38_2).f3)) := (blk_cell BK358.out 3).trans rfl
                                              have hfz44_0 := blk_frozen BK358.out 0
                                              have hfz44_1 := blk_frozen BK358.out 1
                                              have hfz44_2 := blk_frozen BK358.out 2
                                              have hfz44_3 := blk_frozen BK358.out 3
                                              have p365 : 0 ≤ (x10_3 : Int) := of_decide_eq_true (by first | (with_reducible assumption) | assumption)
                                              have q365 : x10_3 < (l0.length : Int) := of_decide_eq_true (by first | (with_reducible assumption) | assumption)
                                              obtain ⟨ad365, e365, hx365_0, hx365_1, hx365_2⟩ := at_T33 HR0.out x10_3 p365 q365
                                              obtain rfl : ad359 = ad365 := (by injection e365)
                                              replace hx365_0 := (HB.out.cell (World.block_lt_of_cell? w _ hx365_0)).trans hx365_0
                                              replace hx365_1 := (HB.out.cell (World.block_lt_of_cell? w _ hx365_1)).trans hx365_1
                                              replace hx365_2 := (HB.out.cell (World.block_lt_of_cell? w _ hx365_2)).trans hx365_2
                                              replace p365 := eq_true p365
                                              replace q365 := eq_true q365
                                              go_wp2
                                              repeat (go_quiet (fail); try go_wp2)
                                              go_roundg k3
                                              case measure => have := HJ1.out; have := HK2.out; have := HK3.out; omega
                                              case rel => exact ⟨(x8_2), (wrap64 (x9_3 + 1)), (x10_3), (wrap64 (x38_2 + 1)), (by first | rfl | (simp; done) | (simp [*]; done)), (by first | rfl | (simp; done) | (simp [*]; done)), (by first | rfl | (simp; done) | (simp [*]; done)), (by first | rfl | (simp; done) | (simp [*]; done)), H', ⟨by have := HJ1.out; have := HK2.out; have := HK3.out; omega⟩, ⟨by (with_reducible repeat (first | apply Kd.R_alloc | apply Kd.R_drewN | apply Kd.R_drew)); exact Kd.R_mono HO_36.out (fun _ hk => trivial)⟩, ⟨by repeat (first | (with_reducible first | exact HB.out | apply below_alloc | apply pw_below_drewN | apply below_drew1 | refine below_set ?_ GE358.out) | exact HB.out)⟩⟩
                                            · rw [if_neg c43] at H
                                              have c43b0 : (((rd_T46 t352 x38_2).f2) == ((rd_T33 l0 x10_3).f2)) = false := beq_eq_false_iff_ne.mpr c43
                                              have c43b1 : (((rd_T46 t352 x38_2).f2) != ((rd_T33 l0 x10_3).f2)) = true := bne_iff_ne.mpr c43
                                              obtain rfl := Option.some.inj H
                                              have p359 : 0 ≤ (x10_3 : Int) := of_decide_eq_true (by first | (with_reducible assumption) | assumption)
                                              have q359 : x10_3 < (l0.length : Int) := of_decide_eq_true (by first | (with_reducible assumption) | assumption)
                                              obtain ⟨ad359, e359, hx359_0, hx359_1, hx359_2⟩ := at_T33 HR0.out x10_3 p359 q359
                                              cases e359
                                              replace hx359_0 := (HB.out.cell (World.block_lt_of_cell? w _ hx359_0)).trans hx359_0
                                              replace hx359_1 := (HB.out.cell (World.block_lt_of_cell? w _ hx359_1)).trans hx359_1
                                              replace hx359_2 := (HB.out.cell (World.block_lt_of_cell? w _ hx359_2)).trans hx359_2
                                              replace p359 := eq_true p359
                                              replace q359 := eq_true q359
                                              have p360 : 0 ≤ (x10_3 : Int) := of_decide_eq_true (by first | (with_reducible assumption) | assumption)
                                              have q360 : x10_3 < (l0.length : Int) := of_decide_eq_true (by first | (with_reducible assumption) | assumption)
                                              obtain ⟨ad360, e360, hx360_0, hx360_1, hx360_2⟩ := at_T33 HR0.out x10_3 p360 q360
                                              obtain rfl : ad359 = ad360 := (by injection e360)
                                              replace hx360_0 := (HB.out.cell (World.block_lt_of_cell? w _ hx360_0)).trans hx360_0
                                              replace hx360_1 := (HB.out.cell (World.block_lt_of_cell? w _ hx360_1)).trans hx360_1
                                              replace hx360_2 := (HB.out.cell (World.block_lt_of_cell? w _ hx360_2)).trans hx360_2
                                              replace p360 := eq_true p360
                                              replace q360 := eq_true q360
                                              have p364 : 0 ≤ (x10_3 : Int) := of_decide_eq_true (by first | (with_reducible assumption) | assumption)
                                              have q364 : x10_3 < (l0.length : Int) := of_decide_eq_true (by first | (with_reducible assumption) | assumption)
                                              obtain ⟨ad364, e364, hx364_0, hx364_1, hx364_2⟩ := at_T33 HR0.out x10_3 p364 q364
                                              obtain rfl : ad359 = ad364 := (by injection e364)
                                              replace hx364_0 := (HB.out.cell (World.block_lt_of_cell? w _ hx364_0)).trans hx364_0
                                              replace hx364_1 := (HB.out.cell (World.block_lt_of_cell? w _ hx364_1)).trans hx364_1
                                              replace hx364_2 := (HB.out.cell (World.block_lt_of_cell? w _ hx364_2)).trans hx364_2
                                              replace p364 := eq_true p364
                                              replace q364 := eq_true q364
                                              have hcz45_0 : wr.cell? ⟨gb358, 0, none⟩ = some (.int .i64 ((rd_T46 t352 x38_2).f0)) := (blk_cell BK358.out 0).trans rfl
                                              have hcz45_1 : wr.cell? ⟨gb358, 1, none⟩ = some (.string ((rd_T46 t352 x38_2).f1)) := (blk_cell BK358.out 1).trans rfl
                                              have hcz45_2 : wr.cell? ⟨gb358, 2, none⟩ = some (.int .i64 ((rd_T46 t352 x38_2).f2)) := (blk_cell BK358.out 2).trans rfl
                                              have hcz45_3 : wr.cell? ⟨gb358, 3, none⟩ = some (.int .i64 ((rd_T46 t352 x38_2).f3)) := (blk_cell BK358.out 3).trans rfl
                                              have hfz45_0 := blk_frozen BK358.out 0
                                              have hfz45_1 := blk_frozen BK358.out 1
                                              have hfz45_2 := blk_frozen BK358.out 2
                                              have hfz45_3 := blk_frozen BK358.out 3
                                              have p365 : 0 ≤ (x10_3 : Int) := of_decide_eq_true (by first | (with_reducible assumption) | assumption)
                                              have q365 : x10_3 < (l0.length : Int) := of_decide_eq_true (by first | (with_reducible assumption) | assumption)
                                              obtain ⟨ad365, e365, hx365_0, hx365_1, hx365_2⟩ := at_T33 HR0.out x10_3 p365 q365
                                              obtain rfl : ad359 = ad365 := (by injection e365)
                                              replace hx365_0 := (HB.out.cell (World.block_lt_of_cell? w _ hx365_0)).trans hx365_0
                                              replace hx365_1 := (HB.out.cell (World.block_lt_of_cell? w _ hx365_1)).trans hx365_1
                                              replace hx365_2 := (HB.out.cell (World.block_lt_of_cell? w _ hx365_2)).trans hx365_2
                                              replace p365 := eq_true p365
                                              replace q365 := eq_true q365
                                              go_wp2
                                              repeat (go_quiet (fail); try go_wp2)
                                              go_ret
                                              exact ⟨by first | rfl | (simp [errW_none, errW_some] <;> rfl) | (simp only [← hji28]; first | rfl | (simp [errW_none, errW_some] <;> rfl)) | (simp [*, errW_none, errW_some] <;> rfl), by repeat (first | (with_reducible first | exact HB.out | apply below_alloc | apply pw_below_drewN | apply below_drew1 | refine below_set ?_ GE358.out) | exact HB.out)⟩
                                          · rw [if_neg c42] at H
                                            have c42b0 : (x9_3 == (ji28)) = false := beq_eq_false_iff_ne.mpr c42
                                            have c42b1 : (x9_3 != (ji28)) = true := bne_iff_ne.mpr c42
                                            have H' := Aside0.mk H
                                            clear H
                                            have p359 : 0 ≤ (x10_3 : Int) := of_decide_eq_true (by first | (with_reducible assumption) | assumption)
                                            have q359 : x10_3 < (l0.length : Int) := of_decide_eq_true (by first | (with_reducible assumption) | assumption)
                                            obtain ⟨ad359, e359, hx359_0, hx359_1, hx359_2⟩ := at_T33 HR0.out x10_3 p359 q359
                                            cases e359
                                            replace hx359_0 := (HB.out.cell (World.block_lt_of_cell? w _ hx359_0)).trans hx359_0
                                            replace hx359_1 := (HB.out.cell (World.block_lt_of_cell? w _ hx359_1)).trans hx359_1
                                            replace hx359_2 := (HB.out.cell (World.block_lt_of_cell? w _ hx359_2)).trans hx359_2
                                            replace p359 := eq_true p359
                                            replace q359 := eq_true q359
                                            have p360 : 0 ≤ (x10_3 : Int) := of_decide_eq_true (by first | (with_reducible assumption) | assumption)
                                            have q360 : x10_3 < (l0.length : Int) := of_decide_eq_true (by first | (with_reducible assumption) | assumption)
                                            obtain ⟨ad360, e360, hx360_0, hx360_1, hx360_2⟩ := at_T33 HR0.out x10_3 p360 q360
                                            obtain rfl : ad359 = ad360 := (by injection e360)
                                            replace hx360_0 := (HB.out.cell (World.block_lt_of_cell? w _ hx360_0)).trans hx360_0
                                            replace hx360_1 := (HB.out.cell (World.block_lt_of_cell? w _ hx360_1)).trans hx360_1
                                            replace hx360_2 := (HB.out.cell (World.block_lt_of_cell? w _ hx360_2)).trans hx360_2
                                            replace p360 := eq_true p360
                                            replace q360 := eq_true q360
                                            have p364 : 0 ≤ (x10_3 : Int) := of_decide_eq_true (by first | (with_reducible assumption) | assumption)
                                            have q364 : x10_3 < (l0.length : Int) := of_decide_eq_true (by first | (with_reducible assumption) | assumption)
                                            obtain ⟨ad364, e364, hx364_0, hx364_1, hx364_2⟩ := at_T33 HR0.out x10_3 p364 q364
                                            obtain rfl : ad359 = ad364 := (by injection e364)
                                            replace hx364_0 := (HB.out.cell (World.block_lt_of_cell? w _ hx364_0)).trans hx364_0
                                            replace hx364_1 := (HB.out.cell (World.block_lt_of_cell? w _ hx364_1)).trans hx364_1
                                            replace hx364_2 := (HB.out.cell (World.block_lt_of_cell? w _ hx364_2)).trans hx364_2
                                            replace p364 := eq_true p364
                                            replace q364 := eq_true q364
                                            go_wp2
                                            repeat (go_quiet (fail); try go_wp2)
                                            go_roundg k3
                                            case measure => have := HJ1.out; have := HK2.out; have := HK3.out; omega
                                            case rel => exact ⟨(x8_2), (wrap64 (x9_3 + 1)), (x10_3), (wrap64 (x38_2 + 1)), (by first | rfl | (simp; done) | (simp [*]; done)), (by first | rfl | (simp; done) | (simp [*]; done)), (by first | rfl | (simp; done) | (simp [*]; done)), (by first | rfl | (simp; done) | (simp [*]; done)), H', ⟨by have := HJ1.out; have := HK2.out; have := HK3.out; omega⟩, ⟨by (with_reducible repeat (first | apply Kd.R_alloc | apply Kd.R_drewN | apply Kd.R_drew)); exact Kd.R_mono HO_36.out (fun _ hk => trivial)⟩, ⟨by repeat (first | (with_reducible first | exact HB.out | apply below_alloc | apply pw_below_drewN | apply below_drew1 | refine below_set ?_ GE358.out) | exact HB.out)⟩⟩
                                      · rw [if_neg c31] at H
                                        have c31b0 : (x9_3 == 0) = false := beq_eq_false_iff_ne.mpr c31
                                        have c31b1 : (x9_3 != 0) = true := bne_iff_ne.mpr c31
                                        by_cases c47 : x9_3 = (ji28)
                                        · rw [if_pos c47] at H
                                          have c47b0 : (x9_3 == (ji28)) = true := beq_iff_eq.mpr c47
                                          have c47b1 : (x9_3 != (ji28)) = false := bne_eq_false_iff_eq.mpr c47
                                          clear c47
                                          by_cases c48 : ((rd_T46 t352 x38_2).f2) = ((rd_T33 l0 x10_3).f2)
                                          · rw [if_pos c48] at H
                                            have c48b0 : (((rd_T46 t352 x38_2).f2) == ((rd_T33 l0 x10_3).f2)) = true := beq_iff_eq.mpr c48
                                            have c48b1 : (((rd_T46 t352 x38_2).f2) != ((rd_T33 l0 x10_3).f2)) = false := bne_eq_false_iff_eq.mpr c48
                                            clear c48
                                            have H' := Aside0.mk H
                                            clear H
                                            have p359 : 0 ≤ (x10_3 : Int) := of_decide_eq_true (by first | (with_reducible assumption) | assumption)
                                            have q359 : x10_3 < (l0.length : Int) := of_decide_eq_true (by first | (with_reducible assumption) | assumption)
                                            obtain ⟨ad359, e359, hx359_0, hx359_1, hx359_2⟩ := at_T33 HR0.out x10_3 p359 q359
                                            cases e359
                                            replace hx359_0 := (HB.out.cell (World.block_lt_of_cell? w _ hx359_0)).trans hx359_0
                                            replace hx359_1 := (HB.out.cell (World.block_lt_of_cell? w _ hx359_1)).trans hx359_1
                                            replace hx359_2 := (HB.out.cell (World.block_lt_of_cell? w _ hx359_2)).trans hx359_2
                                            replace p359 := eq_true p359
                                            replace q359 := eq_true q359
                                            have p366 : 0 ≤ (x10_3 : Int) := of_decide_eq_true (by first | (with_reducible assumption) | assumption)
                                            have q366 : x10_3 < (l0.length : Int) := of_decide_eq_true (by first | (with_reducible assumption) | assumption)
                                            obtain ⟨ad366, e366, hx366_0, hx366_1, hx366_2⟩ := at_T33 HR0.out x10_3 p366 q366
                                            obtain rfl : ad359 = ad366 := (by injection e366)
                                            replace hx366_0 := (HB.out.cell (World.block_lt_of_cell? w _ hx366_0)).trans hx366_0
                                            replace hx366_1 := (HB.out.cell (World.block_lt_of_cell? w _ hx366_1)).trans hx366_1
                                            replace hx366_2 := (HB.out.cell (World.block_lt_of_cell? w _ hx366_2)).trans hx366_2
                                            replace p366 := eq_true p366
                                            replace q366 := eq_true q366
                                            have hcz49_0 : wr.cell? ⟨gb358, 0, none⟩ = some (.int .i64 ((rd_T46 t352 x38_2).f0)) := (blk_cell BK358.out 0).trans rfl
                                            have hcz49_1 : wr.cell? ⟨gb358, 1, none⟩ = some (.string ((rd_T46 t352 x38_2).f1)) := (blk_cell BK358.out 1).trans rfl
                                            have hcz49_2 : wr.cell? ⟨gb358, 2, none⟩ = some (.int .i64 ((rd_T46 t352 x38_2).f2)) := (blk_cell BK358.out 2).trans rfl
                                            have hcz49_3 : wr.cell? ⟨gb358, 3, none⟩ = some (.int .i64 ((rd_T46 t352 x38_2).f3)) := (blk_cell BK358.out 3).trans rfl
                                            have hfz49_0 := blk_frozen BK358.out 0
                                            have hfz49_1 := blk_frozen BK358.out 1
                                            have hfz49_2 := blk_frozen BK358.out 2
                                            have hfz49_3 := blk_frozen BK358.out 3
                                            have p367 : 0 ≤ (x10_3 : Int) := of_decide_eq_true (by first | (with_reducible assumption) | assumption)
                                            have q367 : x10_3 < (l0.length : Int) := of_decide_eq_true (by first | (with_reducible assumption) | assumption)
                                            obtain ⟨ad367, e367, hx367_0, hx367_1, hx367_2⟩ := at_T33 HR0.out x10_3 p367 q367
                                            obtain rfl : ad359 = ad367 := (by injection e367)
                                            replace hx367_0 := (HB.out.cell (World.block_lt_of_cell? w _ hx367_0)).trans hx367_0
                                            replace hx367_1 := (HB.out.cell (World.block_lt_of_cell? w _ hx367_1)).trans hx367_1
                                            replace hx367_2 := (HB.out.cell (World.block_lt_of_cell? w _ hx367_2)).trans hx367_2
                                            replace p367 := eq_true p367
                                            replace q367 := eq_true q367
                                            go_wp2
                                            repeat (go_quiet (fail); try go_wp2)
                                            go_roundg k3
                                            case measure => have := HJ1.out; have := HK2.out; have := HK3.out; omega
                                            case rel => exact ⟨(x8_2), (wrap64 (x9_3 + 1)), (x10_3), (wrap64 (x38_2 + 1)), (by first | rfl | (simp; done) | (simp [*]; done)), (by first | rfl | (simp; done) | (simp [*]; done)), (by first | rfl | (simp; done) | (simp [*]; done)), (by first | rfl | (simp; done) | (simp [*]; done)), H', ⟨by have := HJ1.out; have := HK2.out; have := HK3.out; omega⟩, ⟨by (with_reducible repeat (first | apply Kd.R_alloc | apply Kd.R_drewN | apply Kd.R_drew)); exact Kd.R_mono HO_36.out (fun _ hk => trivial)⟩, ⟨by repeat (first | (with_reducible first | exact HB.out | apply below_alloc | apply pw_below_drewN | apply below_drew1 | refine below_set ?_ GE358.out) | exact HB.out)⟩⟩
                                          · rw [if_neg c48] at H
                                            have c48b0 : (((rd_T46 t352 x38_2).f2) == ((rd_T33 l0 x10_3).f2)) = false := beq_eq_false_iff_ne.mpr c48
                                            have c48b1 : (((rd_T46 t352 x38_2).f2) != ((rd_T33 l0 x10_3).f2)) = true := bne_iff_ne.mpr c48
                                            obtain rfl := Option.some.inj H
                                            have p359 : 0 ≤ (x10_3 : Int) := of_decide_eq_true (by first | (with_reducible assumption) | assumption)
                                            have q359 : x10_3 < (l0.length : Int) := of_decide_eq_true (by first | (with_reducible assumption) | assumption)
                                            obtain ⟨ad359, e359, hx359_0, hx359_1, hx359_2⟩ := at_T33 HR0.out x10_3 p359 q359
                                            cases e359
                                            replace hx359_0 := (HB.out.cell (World.block_lt_of_cell? w _ hx359_0)).trans hx359_0
                                            replace hx359_1 := (HB.out.cell (World.block_lt_of_cell? w _ hx359_1)).trans hx359_1
                                            replace hx359_2 := (HB.out.cell (World.block_lt_of_cell? w _ hx359_2)).trans hx359_2
                                            replace p359 := eq_true p359
                                            replace q359 := eq_true q359
                                            have p366 : 0 ≤ (x10_3 : Int) := of_decide_eq_true (by first | (with_reducible assumption) | assumption)
                                            have q366 : x10_3 < (l0.length : Int) := of_decide_eq_true (by first | (with_reducible assumption) | assumption)
                                            obtain ⟨ad366, e366, hx366_0, hx366_1, hx366_2⟩ := at_T33 HR0.out x10_3 p366 q366
                                            obtain rfl : ad359 = ad366 := (by injection e366)
                                            replace hx366_0 := (HB.out.cell (World.block_lt_of_cell? w _ hx366_0)).trans hx366_0
                                            replace hx366_1 := (HB.out.cell (World.block_lt_of_cell? w _ hx366_1)).trans hx366_1
                                            replace hx366_2 := (HB.out.cell (World.block_lt_of_cell? w _ hx366_2)).trans hx366_2
                                            replace p366 := eq_true p366
                                            replace q366 := eq_true q366
                                            have hcz50_0 : wr.cell? ⟨gb358, 0, none⟩ = some (.int .i64 ((rd_T46 t352 x38_2).f0)) := (blk_cell BK358.out 0).trans rfl
                                            have hcz50_1 : wr.cell? ⟨gb358, 1, none⟩ = some (.string ((rd_T46 t352 x38_2).f1)) := (blk_cell BK358.out 1).trans rfl
                                            have hcz50_2 : wr.cell? ⟨gb358, 2, none⟩ = some (.int .i64 ((rd_T46 t352 x38_2).f2)) := (blk_cell BK358.out 2).trans rfl
                                            have hcz50_3 : wr.cell? ⟨gb358, 3, none⟩ = some (.int .i64 ((rd_T46 t352 x38_2).f3)) := (blk_cell BK358.out 3).trans rfl
                                            have hfz50_0 := blk_frozen BK358.out 0
                                            have hfz50_1 := blk_frozen BK358.out 1
                                            have hfz50_2 := blk_frozen BK358.out 2
                                            have hfz50_3 := blk_frozen BK358.out 3
                                            have p367 : 0 ≤ (x10_3 : Int) := of_decide_eq_true (by first | (with_reducible assumption) | assumption)
                                            have q367 : x10_3 < (l0.length : Int) := of_decide_eq_true (by first | (with_reducible assumption) | assumption)
                                            obtain ⟨ad367, e367, hx367_0, hx367_1, hx367_2⟩ := at_T33 HR0.out x10_3 p367 q367
                                            obtain rfl : ad359 = ad367 := (by injection e367)
                                            replace hx367_0 := (HB.out.cell (World.block_lt_of_cell? w _ hx367_0)).trans hx367_0
                                            replace hx367_1 := (HB.out.cell (World.block_lt_of_cell? w _ hx367_1)).trans hx367_1
                                            replace hx367_2 := (HB.out.cell (World.block_lt_of_cell? w _ hx367_2)).trans hx367_2
                                            replace p367 := eq_true p367
                                            replace q367 := eq_true q367
                                            go_wp2
                                            repeat (go_quiet (fail); try go_wp2)
                                            go_ret
                                            exact ⟨by first | rfl | (simp [errW_none, errW_some] <;> rfl) | (simp only [← hji28]; first | rfl | (simp [errW_none, errW_some] <;> rfl)) | (simp [*, errW_none, errW_some] <;> rfl), by repeat (first | (with_reducible first | exact HB.out | apply below_alloc | apply pw_below_drewN | apply below_drew1 | refine below_set ?_ GE358.out) | exact HB.out)⟩
                                        · rw [if_neg c47] at H
                                          have c47b0 : (x9_3 == (ji28)) = false := beq_eq_false_iff_ne.mpr c47
                                          have c47b1 : (x9_3 != (ji28)) = true := bne_iff_ne.mpr c47
                                          have H' := Aside0.mk H
                                          clear H
                                          have p359 : 0 ≤ (x10_3 : Int) := of_decide_eq_true (by first | (with_reducible assumption) | assumption)
                                          have q359 : x10_3 < (l0.length : Int) := of_decide_eq_true (by first | (with_reducible assumption) | assumption)
                                          obtain ⟨ad359, e359, hx359_0, hx359_1, hx359_2⟩ := at_T33 HR0.out x10_3 p359 q359
                                          cases e359
                                          replace hx359_0 := (HB.out.cell (World.block_lt_of_cell? w _ hx359_0)).trans hx359_0
                                          replace hx359_1 := (HB.out.cell (World.block_lt_of_cell? w _ hx359_1)).trans hx359_1
                                          replace hx359_2 := (HB.out.cell (World.block_lt_of_cell? w _ hx359_2)).trans hx359_2
                                          replace p359 := eq_true p359
                                          replace q359 := eq_true q359
                                          have p366 : 0 ≤ (x10_3 : Int) := of_decide_eq_true (by first | (with_reducible assumption) | assumption)
                                          have q366 : x10_3 < (l0.length : Int) := of_decide_eq_true (by first | (with_reducible assumption) | assumption)
                                          obtain ⟨ad366, e366, hx366_0, hx366_1, hx366_2⟩ := at_T33 HR0.out x10_3 p366 q366
                                          obtain rfl : ad359 = ad366 := (by injection e366)
                                          replace hx366_0 := (HB.out.cell (World.block_lt_of_cell? w _ hx366_0)).trans hx366_0
                                          replace hx366_1 := (HB.out.cell (World.block_lt_of_cell? w _ hx366_1)).trans hx366_1
                                          replace hx366_2 := (HB.out.cell (World.block_lt_of_cell? w _ hx366_2)).trans hx366_2
                                          replace p366 := eq_true p366
                                          replace q366 := eq_true q366
                                          go_wp2
                                          repeat (go_quiet (fail); try go_wp2)
                                          go_roundg k3
                                          case measure => have := HJ1.out; have := HK2.out; have := HK3.out; omega
                                          case rel => exact ⟨(x8_2), (wrap64 (x9_3 + 1)), (x10_3), (wrap64 (x38_2 + 1)), (by first | rfl | (simp; done) | (simp [*]; done)), (by first | rfl | (simp; done) | (simp [*]; done)), (by first | rfl | (simp; done) | (simp [*]; done)), (by first | rfl | (simp; done) | (simp [*]; done)), H', ⟨by have := HJ1.out; have := HK2.out; have := HK3.out; omega⟩, ⟨by (with_reducible repeat (first | apply Kd.R_alloc | apply Kd.R_drewN | apply Kd.R_drew)); exact Kd.R_mono HO_36.out (fun _ hk => trivial)⟩, ⟨by repeat (first | (with_reducible first | exact HB.out | apply below_alloc | apply pw_below_drewN | apply below_drew1 | refine below_set ?_ GE358.out) | exact HB.out)⟩⟩
                                · rw [if_neg c27] at H
                                  exact absurd H (by simp)
                              · rw [if_neg c26] at H
                                have c26b0 : decide (x10_3 < (l0.length : Int)) = false := decide_eq_false c26
                                clear c26
                                by_cases c51 : x10_3 ≥ (l0.length : Int)
                                · rw [if_pos c51] at H
                                  have c51b0 : decide ((l0.length : Int) ≤ x10_3) = true := decide_eq_true c51
                                  clear c51
                                  obtain rfl := Option.some.inj H
                                  go_wp2
                                  repeat (go_quiet (fail); try go_wp2)
                                  go_ret
                                  exact ⟨by first | rfl | (simp [errW_none, errW_some] <;> rfl) | (simp [*, errW_none, errW_some] <;> rfl), by repeat (first | (with_reducible first | exact HB.out | apply below_alloc | apply pw_below_drewN | apply below_drew1 | refine below_set ?_ GE358.out) | exact HB.out)⟩
                                · rw [if_neg c51] at H
                                  have c51b0 : decide ((l0.length : Int) ≤ x10_3) = false := decide_eq_false c51
                                  clear c51
                                  by_cases c52 : x9_3 = 0
                                  · rw [if_pos c52] at H
                                    have c52b0 : (x9_3 == 0) = true := beq_iff_eq.mpr c52
                                    have c52b1 : (x9_3 != 0) = false := bne_eq_false_iff_eq.mpr c52
                                    clear c52
                                    by_cases c53 : 0 ≤ x10_3
                                    · rw [if_pos c53] at H
                                      exact absurd H (by simp)
                                    · rw [if_neg c53] at H
                                      exact absurd H (by simp)
                                  · rw [if_neg c52] at H
                                    have c52b0 : (x9_3 == 0) = false := beq_eq_false_iff_ne.mpr c52
                                    have c52b1 : (x9_3 != 0) = true := bne_iff_ne.mpr c52
                                    by_cases c54 : 0 ≤ x10_3
                                    · rw [if_pos c54] at H
                                      exact absurd H (by simp)
                                    · rw [if_neg c54] at H
                                      exact absurd H (by simp)
                        · rw [if_neg c23] at H
                          have c23b0 : (((rd_T46 t352 x38_2).f0) == 2) = false := beq_eq_false_iff_ne.mpr c23
                          have c23b1 : (((rd_T46 t352 x38_2).f0) != 2) = true := bne_iff_ne.mpr c23
                          have H' := Aside0.mk H
                          clear H
                          have p357 : 0 ≤ (x38_2 : Int) := of_decide_eq_true (by first | (with_reducible assumption) | assumption)
                          have q357 : x38_2 < (t352.length : Int) := of_decide_eq_true (by first | (with_reducible assumption) | assumption)
                          obtain ⟨ad357, e357, hx357_0, hx357_1, hx357_2, hx357_3⟩ := at_T46 (Kd.R_reads' HO_36.out).2.2 x38_2 p357 q357
                          cases e357
                          replace p357 := eq_true p357
                          replace q357 := eq_true q357
                          go_wp2_with (first | ((with_reducible refine gate_dst (N := 12) rfl ?_); (try (refine gate_guard (by rfl) ?_; dsimp only)); refine box_event ?hg (N := 12) ?hd (cs := #[.int .i64 0, .string (⟨#[]⟩ : ByteArray), .int .i64 0, .int .i64 0]) (t := 46) ?hr ?_; (case hd => rfl); (case hg => rfl); (case hr => first | (go_simp; done) | (go_simp; rfl)); intro gb358 hg w55 hbox hb; have n0_ := Aside0.mk (Kd.R_below (Kd.R_elderB (by (with_reducible repeat (first | apply Kd.R_alloc | apply Kd.R_drewN | apply Kd.R_drew)); exact HO_36.out) gb358 (Nat.le_of_eq hg.symm)) hb); have n1_ := Aside0.mk (below_step (by repeat (first | (with_reducible first | exact HB.out | apply below_alloc | apply pw_below_drewN | apply below_drew1) | exact HB.out)) hb); have n2_ := Aside0.mk (hbox); have n3_ := Aside0.mk ((by rw [hg]; exact (below_size (by repeat (first | (with_reducible first | exact HB.out | apply below_alloc | apply pw_below_drewN | apply below_drew1) | exact HB.out))) : w.heap.size ≤ gb358)); have n4_ := Aside0.mk ((by rw [hg]; exact (below_size (by repeat (first | (with_reducible first | exact HB.out | apply below_alloc | apply pw_below_drewN | apply below_drew1) | exact HB.out))) : w.heap.size ≤ gb358)); clear HO_36; clear HB; have HO_36 := n0_; have HB := n1_; have BK358 := n2_; have GW358 := n3_; have GE358 := n4_; clear n0_ n1_ n2_ n3_ n4_; clear hb hbox hg; have hcz56_0 : w55.cell? ⟨gb358, 0, none⟩ = some (.int .i64 0) := (blk_cell BK358.out 0).trans rfl; have hcz56_1 : w55.cell? ⟨gb358, 1, none⟩ = some (.string (⟨#[]⟩ : ByteArray)) := (blk_cell BK358.out 1).trans rfl; have hcz56_2 : w55.cell? ⟨gb358, 2, none⟩ = some (.int .i64 0) := (blk_cell BK358.out 2).trans rfl; have hcz56_3 : w55.cell? ⟨gb358, 3, none⟩ = some (.int .i64 0) := (blk_cell BK358.out 3).trans rfl; have hfz56_0 := blk_frozen BK358.out 0; have hfz56_1 := blk_frozen BK358.out 1; have hfz56_2 := blk_frozen BK358.out 2; have hfz56_3 := blk_frozen BK358.out 3))
                          repeat (go_quiet (first | ((with_reducible refine gate_dst (N := 12) rfl ?_); (try (refine gate_guard (by rfl) ?_; dsimp only)); refine box_event ?hg (N := 12) ?hd (cs := #[.int .i64 0, .string (⟨#[]⟩ : ByteArray), .int .i64 0, .int .i64 0]) (t := 46) ?hr ?_; (case hd => rfl); (case hg => rfl); (case hr => first | (go_simp; done) | (go_simp; rfl)); intro gb358 hg w55 hbox hb; have n0_ := Aside0.mk (Kd.R_below (Kd.R_elderB (by (with_reducible repeat (first | apply Kd.R_alloc | apply Kd.R_drewN | apply Kd.R_drew)); exact HO_36.out) gb358 (Nat.le_of_eq hg.symm)) hb); have n1_ := Aside0.mk (below_step (by repeat (first | (with_reducible first | exact HB.out | apply below_alloc | apply pw_below_drewN | apply below_drew1) | exact HB.out)) hb); have n2_ := Aside0.mk (hbox); have n3_ := Aside0.mk ((by rw [hg]; exact (below_size (by repeat (first | (with_reducible first | exact HB.out | apply below_alloc | apply pw_below_drewN | apply below_drew1) | exact HB.out))) : w.heap.size ≤ gb358)); have n4_ := Aside0.mk ((by rw [hg]; exact (below_size (by repeat (first | (with_reducible first | exact HB.out | apply below_alloc | apply pw_below_drewN | apply below_drew1) | exact HB.out))) : w.heap.size ≤ gb358)); clear HO_36; clear HB; have HO_36 := n0_; have HB := n1_; have BK358 := n2_; have GW358 := n3_; have GE358 := n4_; clear n0_ n1_ n2_ n3_ n4_; clear hb hbox hg; have hcz56_0 : w55.cell? ⟨gb358, 0, none⟩ = some (.int .i64 0) := (blk_cell BK358.out 0).trans rfl; have hcz56_1 : w55.cell? ⟨gb358, 1, none⟩ = some (.string (⟨#[]⟩ : ByteArray)) := (blk_cell BK358.out 1).trans rfl; have hcz56_2 : w55.cell? ⟨gb358, 2, none⟩ = some (.int .i64 0) := (blk_cell BK358.out 2).trans rfl; have hcz56_3 : w55.cell? ⟨gb358, 3, none⟩ = some (.int .i64 0) := (blk_cell BK358.out 3).trans rfl; have hfz56_0 := blk_frozen BK358.out 0; have hfz56_1 := blk_frozen BK358.out 1; have hfz56_2 := blk_frozen BK358.out 2; have hfz56_3 := blk_frozen BK358.out 3)); try go_wp2_with (first | ((with_reducible refine gate_dst (N := 12) rfl ?_); (try (refine gate_guard (by rfl) ?_; dsimp only)); refine box_event ?hg (N := 12) ?hd (cs := #[.int .i64 0, .string (⟨#[]⟩ : ByteArray), .int .i64 0, .int .i64 0]) (t := 46) ?hr ?_; (case hd => rfl); (case hg => rfl); (case hr => first | (go_simp; done) | (go_simp; rfl)); intro gb358 hg w55 hbox hb; have n0_ := Aside0.mk (Kd.R_below (Kd.R_elderB (by (with_reducible repeat (first | apply Kd.R_alloc | apply Kd.R_drewN | apply Kd.R_drew)); exact HO_36.out) gb358 (Nat.le_of_eq hg.symm)) hb); have n1_ := Aside0.mk (below_step (by repeat (first | (with_reducible first | exact HB.out | apply below_alloc | apply pw_below_drewN | apply below_drew1) | exact HB.out)) hb); have n2_ := Aside0.mk (hbox); have n3_ := Aside0.mk ((by rw [hg]; exact (below_size (by repeat (first | (with_reducible first | exact HB.out | apply below_alloc | apply pw_below_drewN | apply below_drew1) | exact HB.out))) : w.heap.size ≤ gb358)); have n4_ := Aside0.mk ((by rw [hg]; exact (below_size (by repeat (first | (with_reducible first | exact HB.out | apply below_alloc | apply pw_below_drewN | apply below_drew1) | exact HB.out))) : w.heap.size ≤ gb358)); clear HO_36; clear HB; have HO_36 := n0_; have HB := n1_; have BK358 := n2_; have GW358 := n3_; have GE358 := n4_; clear n0_ n1_ n2_ n3_ n4_; clear hb hbox hg; have hcz56_0 : w55.cell? ⟨gb358, 0, none⟩ = some (.int .i64 0) := (blk_cell BK358.out 0).trans rfl; have hcz56_1 : w55.cell? ⟨gb358, 1, none⟩ = some (.string (⟨#[]⟩ : ByteArray)) := (blk_cell BK358.out 1).trans rfl; have hcz56_2 : w55.cell? ⟨gb358, 2, none⟩ = some (.int .i64 0) := (blk_cell BK358.out 2).trans rfl; have hcz56_3 : w55.cell? ⟨gb358, 3, none⟩ = some (.int .i64 0) := (blk_cell BK358.out 3).trans rfl; have hfz56_0 := blk_frozen BK358.out 0; have hfz56_1 := blk_frozen BK358.out 1; have hfz56_2 := blk_frozen BK358.out 2; have hfz56_3 := blk_frozen BK358.out 3)))
                          go_roundg k2
                          case measure => have := HJ1.out; have := HK2.out; omega
                          case rel => exact ⟨(x8_2), (x9_2), (x10_2), (wrap64 (x38_2 + 1)), (by first | rfl | (simp; done) | (simp [*]; done)), (by first | rfl | (simp; done) | (simp [*]; done)), (by first | rfl | (simp; done) | (simp [*]; done)), (by first | rfl | (simp; done) | (simp [*]; done)), H', ⟨by have := HJ1.out; have := HK2.out; omega⟩, ⟨by (with_reducible repeat (first | apply Kd.R_alloc | apply Kd.R_drewN | apply Kd.R_drew)); exact Kd.R_mono (Kd.R_far (p := ⟨gb358, 3, none⟩) (Kd.R_far (p := ⟨gb358, 2, none⟩) (Kd.R_far (p := ⟨gb358, 1, none⟩) (Kd.R_far (p := ⟨gb358, 0, none⟩) (Kd.R_mono HO_36.out (fun k_ hk => (⟨hk, hk.2⟩ : _ ∧ k_ ≠ gb358))) (fun _ hk => hk.2) (.int .i64 ((rd_T46 t352 x38_2).f0))) (fun _ hk => hk.2) (.string ((rd_T46 t352 x38_2).f1))) (fun _ hk => hk.2) (.int .i64 ((rd_T46 t352 x38_2).f2))) (fun _ hk => hk.2) (.int .i64 ((rd_T46 t352 x38_2).f3))) (fun _ hk => trivial)⟩, ⟨by repeat (first | (with_reducible first | exact HB.out | apply below_alloc | apply pw_below_drewN | apply below_drew1 | refine below_set ?_ GE358.out) | exact HB.out)⟩⟩
                    · rw [if_neg c19] at H
                      exact absurd H (by simp)
                  · rw [if_neg c18] at H
                    exact absurd H (by simp)
                · rw [if_neg c17] at H
                  have c17b0 : decide (x38_2 < (t352.length : Int)) = false := decide_eq_false c17
                  clear c17
                  by_cases c57 : x8_2 = (l0.length : Int)
                  · rw [if_pos c57] at H
                    have c57b0 : (x8_2 == (l0.length : Int)) = true := beq_iff_eq.mpr c57
                    have c57b1 : (x8_2 != (l0.length : Int)) = false := bne_eq_false_iff_eq.mpr c57
                    clear c57
                    by_cases c58 : (l0.length : Int) = 0
                    · rw [if_pos c58] at H
                      have c58b0 : ((l0.length : Int) == 0) = true := beq_iff_eq.mpr c58
                      have c58b1 : ((l0.length : Int) != 0) = false := bne_eq_false_iff_eq.mpr c58
                      clear c58
                      obtain rfl := Option.some.inj H
                      go_wp2
                      repeat (go_quiet (fail); try go_wp2)
                      go_ret
                      exact ⟨by first | rfl | (simp [errW_none, errW_some] <;> rfl) | (simp [*, errW_none, errW_some] <;> rfl), by repeat (first | (with_reducible first | exact HB.out | apply below_alloc | apply pw_below_drewN | apply below_drew1) | exact HB.out)⟩
                    · rw [if_neg c58] at H
                      have c58b0 : ((l0.length : Int) == 0) = false := beq_eq_false_iff_ne.mpr c58
                      have c58b1 : ((l0.length : Int) != 0) = true := bne_iff_ne.mpr c58
                      have c58b2 : ¬ (l0 = []) := fun h_ => c58 (by rw [h_]; rfl)
                      obtain rfl := Option.some.inj H
                      go_wp2
                      repeat (go_quiet (fail); try go_wp2)
                      go_ret
                      exact ⟨by first | rfl | (simp [errW_none, errW_some] <;> rfl) | (simp [*, errW_none, errW_some] <;> rfl), by repeat (first | (with_reducible first | exact HB.out | apply below_alloc | apply pw_below_drewN | apply below_drew1) | exact HB.out)⟩
                  · rw [if_neg c57] at H
                    have c57b0 : (x8_2 == (l0.length : Int)) = false := beq_eq_false_iff_ne.mpr c57
                    have c57b1 : (x8_2 != (l0.length : Int)) = true := bne_iff_ne.mpr c57
                    obtain rfl := Option.some.inj H
                    go_wp2
                    repeat (go_quiet (fail); try go_wp2)
                    go_ret
                    exact ⟨by first | rfl | (simp [errW_none, errW_some] <;> rfl) | (simp [*, errW_none, errW_some] <;> rfl), by repeat (first | (with_reducible first | exact HB.out | apply below_alloc | apply pw_below_drewN | apply below_drew1) | exact HB.out)⟩
          · rw [if_neg c13] at H
            have c13b0 : (t354 == 0) = false := beq_eq_false_iff_ne.mpr c13
            have c13b1 : (t354 != 0) = true := bne_iff_ne.mpr c13
            obtain rfl := Option.some.inj H
            go_wp2_with (first | (go_at_call 17; (with_reducible refine (calrule_Text.calls kj1 _ _ l0 t350 t351 _ ?side1 ?side2 ?sideT A10.out).mono ?_); (case sideT => exact Tab.below HT.out (by repeat (first | (with_reducible first | exact HB.out | apply below_alloc | apply pw_below_drewN | apply below_drew1) | exact HB.out))); (case side1 => repeat (first | exact (Kd.C_below HR0.out HB.out) | (with_reducible refine Kd.C_alloc ?_ _) | (with_reducible refine Kd.C_drewN ?_ _) | (with_reducible refine Kd.C_drew ?_))); (case side2 => exact HC0.out); rintro e w59 ⟨rfl, hb⟩; have n0_ := Aside0.mk (below_step (by repeat (first | (with_reducible first | exact HB.out | apply below_alloc | apply pw_below_drewN | apply below_drew1) | exact HB.out)) hb); clear HB; have HB := n0_; clear n0_; (try clear hb); (try clear hb2); (try clear hk); (try clear hi)) | (go_at_call 21; (with_reducible refine (caltok_Lex.calls kj1 t350 t352 t353 t354 _ ?sideU A12.out).mono ?_); (case sideU => exact Units.below HU.out (by repeat (first | (with_reducible first | exact HB.out | apply below_alloc | apply pw_below_drewN | apply below_drew1) | exact HB.out))); rintro e w60 ⟨v355, rfl, ho0, hb⟩; have n0_ := Aside0.mk (Kd.R_lower ho0 (below_size (by repeat (first | (with_reducible first | exact HB.out | apply below_alloc | apply pw_below_drewN | apply below_drew1) | exact HB.out)))); have n1_ := Aside0.mk (below_step (by repeat (first | (with_reducible first | exact HB.out | apply below_alloc | apply pw_below_drewN | apply below_drew1) | exact HB.out)) hb); clear HB; have HO356 := n0_; have HB := n1_; clear n0_ n1_; (try clear hb); (try clear hb2); (try clear hk); (try clear hi); (try clear ho0)))
            repeat (go_quiet (first | (go_at_call 17; (with_reducible refine (calrule_Text.calls kj1 _ _ l0 t350 t351 _ ?side1 ?side2 ?sideT A10.out).mono ?_); (case sideT => exact Tab.below HT.out (by repeat (first | (with_reducible first | exact HB.out | apply below_alloc | apply pw_below_drewN | apply below_drew1) | exact HB.out))); (case side1 => repeat (first | exact (Kd.C_below HR0.out HB.out) | (with_reducible refine Kd.C_alloc ?_ _) | (with_reducible refine Kd.C_drewN ?_ _) | (with_reducible refine Kd.C_drew ?_))); (case side2 => exact HC0.out); rintro e w59 ⟨rfl, hb⟩; have n0_ := Aside0.mk (below_step (by repeat (first | (with_reducible first | exact HB.out | apply below_alloc | apply pw_below_drewN | apply below_drew1) | exact HB.out)) hb); clear HB; have HB := n0_; clear n0_; (try clear hb); (try clear hb2); (try clear hk); (try clear hi)) | (go_at_call 21; (with_reducible refine (caltok_Lex.calls kj1 t350 t352 t353 t354 _ ?sideU A12.out).mono ?_); (case sideU => exact Units.below HU.out (by repeat (first | (with_reducible first | exact HB.out | apply below_alloc | apply pw_below_drewN | apply below_drew1) | exact HB.out))); rintro e w60 ⟨v355, rfl, ho0, hb⟩; have n0_ := Aside0.mk (Kd.R_lower ho0 (below_size (by repeat (first | (with_reducible first | exact HB.out | apply below_alloc | apply pw_below_drewN | apply below_drew1) | exact HB.out)))); have n1_ := Aside0.mk (below_step (by repeat (first | (with_reducible first | exact HB.out | apply below_alloc | apply pw_below_drewN | apply below_drew1) | exact HB.out)) hb); clear HB; have HO356 := n0_; have HB := n1_; clear n0_ n1_; (try clear hb); (try clear hb2); (try clear hk); (try clear hi); (try clear ho0))); try go_wp2_with (first | (go_at_call 17; (with_reducible refine (calrule_Text.calls kj1 _ _ l0 t350 t351 _ ?side1 ?side2 ?sideT A10.out).mono ?_); (case sideT => exact Tab.below HT.out (by repeat (first | (with_reducible first | exact HB.out | apply below_alloc | apply pw_below_drewN | apply below_drew1) | exact HB.out))); (case side1 => repeat (first | exact (Kd.C_below HR0.out HB.out) | (with_reducible refine Kd.C_alloc ?_ _) | (with_reducible refine Kd.C_drewN ?_ _) | (with_reducible refine Kd.C_drew ?_))); (case side2 => exact HC0.out); rintro e w59 ⟨rfl, hb⟩; have n0_ := Aside0.mk (below_step (by repeat (first | (with_reducible first | exact HB.out | apply below_alloc | apply pw_below_drewN | apply below_drew1) | exact HB.out)) hb); clear HB; have HB := n0_; clear n0_; (try clear hb); (try clear hb2); (try clear hk); (try clear hi)) | (go_at_call 21; (with_reducible refine (caltok_Lex.calls kj1 t350 t352 t353 t354 _ ?sideU A12.out).mono ?_); (case sideU => exact Units.below HU.out (by repeat (first | (with_reducible first | exact HB.out | apply below_alloc | apply pw_below_drewN | apply below_drew1) | exact HB.out))); rintro e w60 ⟨v355, rfl, ho0, hb⟩; have n0_ := Aside0.mk (Kd.R_lower ho0 (below_size (by repeat (first | (with_reducible first | exact HB.out | apply below_alloc | apply pw_below_drewN | apply below_drew1) | exact HB.out)))); have n1_ := Aside0.mk (below_step (by repeat (first | (with_reducible first | exact HB.out | apply below_alloc | apply pw_below_drewN | apply below_drew1) | exact HB.out)) hb); clear HB; have HO356 := n0_; have HB := n1_; clear n0_ n1_; (try clear hb); (try clear hb2); (try clear hk); (try clear hi); (try clear ho0))))
            go_ret
            exact ⟨by first | rfl | (simp [errW_none, errW_some] <;> rfl) | (simp [*, errW_none, errW_some] <;> rfl), by repeat (first | (with_reducible first | exact HB.out | apply below_alloc | apply pw_below_drewN | apply below_drew1) | exact HB.out)⟩
        · rw [if_neg c11] at H
          have c11b0 : (t351 == 0) = false := beq_eq_false_iff_ne.mpr c11
          have c11b1 : (t351 != 0) = true := bne_iff_ne.mpr c11
          obtain rfl := Option.some.inj H
          go_wp2_with (first | (go_at_call 17; (with_reducible refine (calrule_Text.calls kj1 _ _ l0 t350 t351 _ ?side1 ?side2 ?sideT A10.out).mono ?_); (case sideT => exact Tab.below HT.out (by repeat (first | (with_reducible first | exact HB.out | apply below_alloc | apply pw_below_drewN | apply below_drew1) | exact HB.out))); (case side1 => repeat (first | exact (Kd.C_below HR0.out HB.out) | (with_reducible refine Kd.C_alloc ?_ _) | (with_reducible refine Kd.C_drewN ?_ _) | (with_reducible refine Kd.C_drew ?_))); (case side2 => exact HC0.out); rintro e w61 ⟨rfl, hb⟩; have n0_ := Aside0.mk (below_step (by repeat (first | (with_reducible first | exact HB.out | apply below_alloc | apply pw_below_drewN | apply below_drew1) | exact HB.out)) hb); clear HB; have HB := n0_; clear n0_; (try clear hb); (try clear hb2); (try clear hk); (try clear hi)))
          repeat (go_quiet (first | (go_at_call 17; (with_reducible refine (calrule_Text.calls kj1 _ _ l0 t350 t351 _ ?side1 ?side2 ?sideT A10.out).mono ?_); (case sideT => exact Tab.below HT.out (by repeat (first | (with_reducible first | exact HB.out | apply below_alloc | apply pw_below_drewN | apply below_drew1) | exact HB.out))); (case side1 => repeat (first | exact (Kd.C_below HR0.out HB.out) | (with_reducible refine Kd.C_alloc ?_ _) | (with_reducible refine Kd.C_drewN ?_ _) | (with_reducible refine Kd.C_drew ?_))); (case side2 => exact HC0.out); rintro e w61 ⟨rfl, hb⟩; have n0_ := Aside0.mk (below_step (by repeat (first | (with_reducible first | exact HB.out | apply below_alloc | apply pw_below_drewN | apply below_drew1) | exact HB.out)) hb); clear HB; have HB := n0_; clear n0_; (try clear hb); (try clear hb2); (try clear hk); (try clear hi))); try go_wp2_with (first | (go_at_call 17; (with_reducible refine (calrule_Text.calls kj1 _ _ l0 t350 t351 _ ?side1 ?side2 ?sideT A10.out).mono ?_); (case sideT => exact Tab.below HT.out (by repeat (first | (with_reducible first | exact HB.out | apply below_alloc | apply pw_below_drewN | apply below_drew1) | exact HB.out))); (case side1 => repeat (first | exact (Kd.C_below HR0.out HB.out) | (with_reducible refine Kd.C_alloc ?_ _) | (with_reducible refine Kd.C_drewN ?_ _) | (with_reducible refine Kd.C_drew ?_))); (case side2 => exact HC0.out); rintro e w61 ⟨rfl, hb⟩; have n0_ := Aside0.mk (below_step (by repeat (first | (with_reducible first | exact HB.out | apply below_alloc | apply pw_below_drewN | apply below_drew1) | exact HB.out)) hb); clear HB; have HB := n0_; clear n0_; (try clear hb); (try clear hb2); (try clear hk); (try clear hi))))
          go_ret
          exact ⟨by first | rfl | (simp [errW_none, errW_some] <;> rfl) | (simp [*, errW_none, errW_some] <;> rfl), by repeat (first | (with_reducible first | exact HB.out | apply below_alloc | apply pw_below_drewN | apply below_drew1) | exact HB.out)⟩

end Go.Proofs.YthnifjggnjcenaaDoor.All
