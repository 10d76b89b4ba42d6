-- Printed by a program (wip/mkprint.sh over the kit's print.py) out of the translation; Lean checks it.
import Derived.Test.YthnifjggnjcenaaDoorAllx0
import Derived.Test.YthnifjggnjcenaaDoorAllx6
import Derived.Test.YthnifjggnjcenaaDoorAllx13
import Derived.Test.YthnifjggnjcenaaDoorText
import Derived.Test.YthnifjggnjcenaaDoorParse
namespace Go.Proofs.YthnifjggnjcenaaDoor.All
open Go.RowKit Go.Proofs.YthnifjggnjcenaaDoorW.PrintWords Go.Proofs.YthnifjggnjcenaaDoorW.PrintLast Go.Proofs.YthnifjggnjcenaaDoorW.PrintMore
attribute [local go_sem] max2_int min2_int max_two min_two max_three min_three max_four min_four   -- for this text's walks alone
set_option linter.unusedVariables false
set_option linter.unusedSimpArgs false

/-! ### erewhilelaw34_CalruleBlanks: function 8 -/
mutual
def erewhilelaw34_CalruleBlanks.j0 : Nat → List (S33) → Int → Bool → Option (Bool)
  | 0, _, _, _ => none
  | k + 1, x0, x1, x19 => if x19 = true then ((erewhilelaw34_awake.f k).bind fun t320 => (some t320)) else ((calrule_Text.f k x0).bind fun bt321 => (if bt321.2 = 0 then (erewhilelaw34_CalruleBlanks.l0 k x0 x1 bt321.1 (⟨#[10]⟩ : ByteArray) 0) else (some true)))
def erewhilelaw34_CalruleBlanks.l0 : Nat → List (S33) → Int → ByteArray → ByteArray → Int → Option (Bool)
  | 0, _, _, _, _, _ => none
  | k + 1, x0, x1, x5, x7, x8 => if x8 < (x5.size : Int) then (erewhilelaw34_CalruleBlanks.l1 k x0 x1 x5 x7 x8 0) else (if 2 + x7.size ≤ 9223372036854775807 then (if ((⟨#[32, 32]⟩ : ByteArray) ++ x7).size + 1 ≤ 9223372036854775807 then ((calrule_Parse.f k (((⟨#[32, 32]⟩ : ByteArray) ++ x7) ++ (⟨#[32]⟩ : ByteArray))).bind fun bt323 => (if bt323.2.2 = 0 then ((erewhileref34_Same.f k bt323.1 x0).bind fun t328 => (some t328)) else (some false))) else (none)) else (none))
def erewhilelaw34_CalruleBlanks.l1 : Nat → List (S33) → Int → ByteArray → ByteArray → Int → Int → Option (Bool)
  | 0, _, _, _, _, _, _ => none
  | k + 1, x0, x1, x5, x7, x8, x9 => if x9 ≤ (Int.tmod (wrap64 (x1)) 3) then (if 0 ≤ x8 then (if x8 < (x5.size : Int) then (if (bt x5 x8) = 32 then (if x8 ≤ (wrap64 (x8 + 1)) then (if (wrap64 (x8 + 1)) ≤ (x5.size : Int) then (if x7.size + (x5.extract (x8 : Int).toNat ((wrap64 (x8 + 1)) : Int).toNat).size ≤ 9223372036854775807 then (erewhilelaw34_CalruleBlanks.l1 k x0 x1 x5 (x7 ++ (x5.extract (x8 : Int).toNat ((wrap64 (x8 + 1)) : Int).toNat)) x8 (wrap64 (x9 + 1))) else (none)) else (none)) else (none)) else (if (bt x5 x8) = 10 then (if x8 ≤ (wrap64 (x8 + 1)) then (if (wrap64 (x8 + 1)) ≤ (x5.size : Int) then (if x7.size + (x5.extract (x8 : Int).toNat ((wrap64 (x8 + 1)) : Int).toNat).size ≤ 9223372036854775807 then (erewhilelaw34_CalruleBlanks.l1 k x0 x1 x5 (x7 ++ (x5.extract (x8 : Int).toNat ((wrap64 (x8 + 1)) : Int).toNat)) x8 (wrap64 (x9 + 1))) else (none)) else (none)) else (none)) else (if x8 ≤ (wrap64 (x8 + 1)) then (if (wrap64 (x8 + 1)) ≤ (x5.size : Int) then (if x7.size + (x5.extract (x8 : Int).toNat ((wrap64 (x8 + 1)) : Int).toNat).size ≤ 9223372036854775807 then (erewhilelaw34_CalruleBlanks.l0 k x0 x1 x5 (x7 ++ (x5.extract (x8 : Int).toNat ((wrap64 (x8 + 1)) : Int).toNat)) (wrap64 (x8 + 1))) else (none)) else (none)) else (none)))) else (none)) else (none)) else (if 0 ≤ x8 then (if x8 < (x5.size : Int) then (if (bt x5 x8) = 32 then (erewhilelaw34_CalruleBlanks.l0 k x0 x1 x5 x7 (wrap64 (x8 + 1))) else (if (bt x5 x8) = 10 then (erewhilelaw34_CalruleBlanks.l0 k x0 x1 x5 x7 (wrap64 (x8 + 1))) else (if x8 ≤ (wrap64 (x8 + 1)) then (if (wrap64 (x8 + 1)) ≤ (x5.size : Int) then (if x7.size + (x5.extract (x8 : Int).toNat ((wrap64 (x8 + 1)) : Int).toNat).size ≤ 9223372036854775807 then (erewhilelaw34_CalruleBlanks.l0 k x0 x1 x5 (x7 ++ (x5.extract (x8 : Int).toNat ((wrap64 (x8 + 1)) : Int).toNat)) (wrap64 (x8 + 1))) else (none)) else (none)) else (none)))) else (none)) else (none))
end
def erewhilelaw34_CalruleBlanks.f (k : Nat) (l0 : List (S33)) (a1 : Int) : Option (Bool) := (erewhilelaw34_awake.f k).bind fun t319 => (if t319 = true then (erewhilelaw34_CalruleBlanks.j0 k l0 a1 (decide ((l0.length : Int) > 40))) else (erewhilelaw34_CalruleBlanks.j0 k l0 a1 true))
theorem erewhilelaw34_CalruleBlanks.mono_l : ∀ k, (∀ y0 y1 y2, LeO (erewhilelaw34_CalruleBlanks.j0 k y0 y1 y2) (erewhilelaw34_CalruleBlanks.j0 (k + 1) y0 y1 y2)) ∧ (∀ y0 y1 y2 y3 y4, LeO (erewhilelaw34_CalruleBlanks.l0 k y0 y1 y2 y3 y4) (erewhilelaw34_CalruleBlanks.l0 (k + 1) y0 y1 y2 y3 y4)) ∧ (∀ y0 y1 y2 y3 y4 y5, LeO (erewhilelaw34_CalruleBlanks.l1 k y0 y1 y2 y3 y4 y5) (erewhilelaw34_CalruleBlanks.l1 (k + 1) y0 y1 y2 y3 y4 y5))
  | 0 => ⟨fun _ _ _ r h => by simp [erewhilelaw34_CalruleBlanks.j0] at h, fun _ _ _ _ _ r h => by simp [erewhilelaw34_CalruleBlanks.l0] at h, fun _ _ _ _ _ _ r h => by simp [erewhilelaw34_CalruleBlanks.l1] at h⟩
  | k + 1 => by
    obtain ⟨ih0, ih1, ih2⟩ := erewhilelaw34_CalruleBlanks.mono_l k
    refine ⟨?_, ?_, ?_⟩
    · intro y0 y1 y2
      unfold erewhilelaw34_CalruleBlanks.j0
      repeat' first
      | (with_reducible exact ih0 _ _ _)
      | (with_reducible exact ih1 _ _ _ _ _)
      | (with_reducible exact ih2 _ _ _ _ _ _)
      | (with_reducible exact calrule_Parse.mono _ _)
      | (with_reducible exact calrule_Text.mono _ _)
      | (with_reducible exact erewhilelaw34_awake.mono _)
      | (with_reducible exact erewhileref34_Same.mono _ _ _)
      | (with_reducible exact LeO.refl _)
      | (with_reducible exact LeO.none _)
      | (with_reducible refine LeO.ite ?_ ?_)
      | (with_reducible refine LeO.bind ?_ (fun _ => ?_))
      | exact ih0 _ _ _
      | exact ih1 _ _ _ _ _
      | exact ih2 _ _ _ _ _ _
      | exact calrule_Parse.mono _ _
      | exact calrule_Text.mono _ _
      | exact erewhilelaw34_awake.mono _
      | exact erewhileref34_Same.mono _ _ _
      | exact LeO.none _
      | refine LeO.ite ?_ ?_
      | refine LeO.bind ?_ (fun _ => ?_)
    · intro y0 y1 y2 y3 y4
      unfold erewhilelaw34_CalruleBlanks.l0
      repeat' first
      | (with_reducible exact ih0 _ _ _)
      | (with_reducible exact ih1 _ _ _ _ _)
      | (with_reducible exact ih2 _ _ _ _ _ _)
      | (with_reducible exact calrule_Parse.mono _ _)
      | (with_reducible exact calrule_Text.mono _ _)
      | (with_reducible exact erewhilelaw34_awake.mono _)
      | (with_reducible exact erewhileref34_Same.mono _ _ _)
      | (with_reducible exact LeO.refl _)
      | (with_reducible exact LeO.none _)
      | (with_reducible refine LeO.ite ?_ ?_)
      | (with_reducible refine LeO.bind ?_ (fun _ => ?_))
      | exact ih0 _ _ _
      | exact ih1 _ _ _ _ _
      | exact ih2 _ _ _ _ _ _
      | exact calrule_Parse.mono _ _
      | exact calrule_Text.mono _ _
      | exact erewhilelaw34_awake.mono _
      | exact erewhileref34_Same.mono _ _ _
      | exact LeO.none _
      | refine LeO.ite ?_ ?_
      | refine LeO.bind ?_ (fun _ => ?_)
    · intro y0 y1 y2 y3 y4 y5
      unfold erewhilelaw34_CalruleBlanks.l1
      repeat' first
      | (with_reducible exact ih0 _ _ _)
      | (with_reducible exact ih1 _ _ _ _ _)
      | (with_reducible exact ih2 _ _ _ _ _ _)
      | (with_reducible exact calrule_Parse.mono _ _)
      | (with_reducible exact calrule_Text.mono _ _)
      | (with_reducible exact erewhilelaw34_awake.mono _)
      | (with_reducible exact erewhileref34_Same.mono _ _ _)
      | (with_reducible exact LeO.refl _)
      | (with_reducible exact LeO.none _)
      | (with_reducible refine LeO.ite ?_ ?_)
      | (with_reducible refine LeO.bind ?_ (fun _ => ?_))
      | exact ih0 _ _ _
      | exact ih1 _ _ _ _ _
      | exact ih2 _ _ _ _ _ _
      | exact calrule_Parse.mono _ _
      | exact calrule_Text.mono _ _
      | exact erewhilelaw34_awake.mono _
      | exact erewhileref34_Same.mono _ _ _
      | exact LeO.none _
      | refine LeO.ite ?_ ?_
      | refine LeO.bind ?_ (fun _ => ?_)
theorem erewhilelaw34_CalruleBlanks.mono : ∀ a0 a1 k, LeO (erewhilelaw34_CalruleBlanks.f k a0 a1) (erewhilelaw34_CalruleBlanks.f (k + 1) a0 a1) := by
  intro a0 a1 k
  obtain ⟨ih0, ih1, ih2⟩ := erewhilelaw34_CalruleBlanks.mono_l k
  unfold erewhilelaw34_CalruleBlanks.f
  repeat' first
      | (with_reducible exact ih0 _ _ _)
      | (with_reducible exact ih1 _ _ _ _ _)
      | (with_reducible exact ih2 _ _ _ _ _ _)
      | (with_reducible exact calrule_Parse.mono _ _)
      | (with_reducible exact calrule_Text.mono _ _)
      | (with_reducible exact erewhilelaw34_awake.mono _)
      | (with_reducible exact erewhileref34_Same.mono _ _ _)
      | (with_reducible exact LeO.refl _)
      | (with_reducible exact LeO.none _)
      | (with_reducible refine LeO.ite ?_ ?_)
      | (with_reducible refine LeO.bind ?_ (fun _ => ?_))
      | exact ih0 _ _ _
      | exact ih1 _ _ _ _ _
      | exact ih2 _ _ _ _ _ _
      | exact calrule_Parse.mono _ _
      | exact calrule_Text.mono _ _
      | exact erewhilelaw34_awake.mono _
      | exact erewhileref34_Same.mono _ _ _
      | exact LeO.none _
      | refine LeO.ite ?_ ?_
      | refine LeO.bind ?_ (fun _ => ?_)
set_option maxHeartbeats 8000000 in
set_option maxRecDepth 100000 in
theorem erewhilelaw34_CalruleBlanks.calls (k : Nat) (A0 : Option Addr) (c0 : Nat) (l0 : List (S33)) (a1 : Int) (r : Bool) (w : World) (hr0 : Kd.C k33 w A0 l0.length l0) (hc0 : l0.length ≤ c0) (hU : Units w) (hT : Tab w) (h : erewhilelaw34_CalruleBlanks.f k l0 a1 = some r) :
    Calls Tryd.prog 8 #[.slice A0 l0.length c0, .int .u8 a1] w fun e w' => e = .returned (.bool r) ∧ Below w.heap.size w w' := by
  have HR0 := Aside0.mk hr0
  have HC0 := Aside0.mk hc0
  clear hr0 hc0
  have HB := Aside0.mk (Below.refl w.heap.size w)
  have HT := Aside0.mk hT
  clear hT
  have HU := Aside0.mk hU
  clear hU
  have H : ((erewhilelaw34_awake.f k).bind fun t319 => (if t319 = true then (erewhilelaw34_CalruleBlanks.j0 k l0 a1 (decide ((l0.length : Int) > 40))) else (erewhilelaw34_CalruleBlanks.j0 k l0 a1 true))) = some r := h
  clear h
  have HC3 := Aside0.mk H
  clear H
  go_enter Tryd.func8, Tryd.ntmps8
  go_upto_region 1 with (fail)
  go_cut [19] (fun v19 wc => ∃ (kq : Nat) (x19_2 : Bool), v19 = .bool x19_2 ∧ Aside0 (erewhilelaw34_CalruleBlanks.j0 kq l0 a1 x19_2 = some r) ∧ Aside0 (kq ≤ k) ∧ Aside0 (Below w.heap.size w wc))
  case first =>
    have H := HC3.out
    clear HC3
    replace H := Option.bind_eq_some_iff.mp H
    obtain ⟨t319, A40, H⟩ := H
    replace H : (if t319 = true then (erewhilelaw34_CalruleBlanks.j0 k l0 a1 (decide ((l0.length : Int) > 40))) else (erewhilelaw34_CalruleBlanks.j0 k l0 a1 true)) = some r := H
    have A4 := Aside0.mk A40
    clear A40
    by_cases c5 : t319 = true
    · subst c5
      have H1 : (erewhilelaw34_CalruleBlanks.j0 k l0 a1 (decide ((l0.length : Int) > 40))) = some r := by rw [if_pos rfl] at H; exact H
      clear H
      have H := H1
      clear H1
      have H' := Aside0.mk H
      clear H
      go_wp2_with (first | ((with_reducible refine gate_callee (f := 13) rfl ?_); refine goesL_ (some 13) rfl rfl Tryd.func13 (by kernel_rfl) rfl #[] rfl (by (try simp only [List.map_toArray, List.map_cons, List.map_nil]); first | done | rfl | (simp only [List.length_drop, List.length_take]; rfl)) ?_; (with_reducible refine (erewhilelaw34_awake.calls k  true _ ?sideU A4.out).mono ?_); (case sideU => exact Units.below HU.out (by repeat (first | (with_reducible first | exact HB.out | apply below_alloc | apply pw_below_drewN | apply below_drew1) | exact HB.out))); rintro e w6 ⟨rfl, hb⟩; refine ⟨_, rfl, ?_⟩; have n0_ := Aside0.mk (below_step (by repeat (first | (with_reducible first | exact HB.out | apply below_alloc | apply pw_below_drewN | apply below_drew1) | exact HB.out)) hb); clear HB; have HB := n0_; clear n0_; (try clear hb); (try clear hb2); (try clear hk); (try clear hi)))
      go_meet
      case rel => exact ⟨_, (decide ((l0.length : Int) > 40)), (by first | rfl | (simp; done) | (simp [*]; done)), H', ⟨by first | omega | exact Nat.le_refl _⟩, ⟨by repeat (first | (with_reducible first | exact HB.out | apply below_alloc | apply pw_below_drewN | apply below_drew1) | exact HB.out)⟩⟩
    · replace c5 := Bool.eq_false_iff.mpr c5
      subst c5
      have H1 : (erewhilelaw34_CalruleBlanks.j0 k l0 a1 true) = some r := by rw [if_neg (show ¬ (false = true) by decide)] at H; exact H
      clear H
      have H := H1
      clear H1
      have H' := Aside0.mk H
      clear H
      go_wp2_with (first | ((with_reducible refine gate_callee (f := 13) rfl ?_); refine goesL_ (some 13) rfl rfl Tryd.func13 (by kernel_rfl) rfl #[] rfl (by (try simp only [List.map_toArray, List.map_cons, List.map_nil]); first | done | rfl | (simp only [List.length_drop, List.length_take]; rfl)) ?_; (with_reducible refine (erewhilelaw34_awake.calls k  false _ ?sideU A4.out).mono ?_); (case sideU => exact Units.below HU.out (by repeat (first | (with_reducible first | exact HB.out | apply below_alloc | apply pw_below_drewN | apply below_drew1) | exact HB.out))); rintro e w7 ⟨rfl, hb⟩; refine ⟨_, rfl, ?_⟩; have n0_ := Aside0.mk (below_step (by repeat (first | (with_reducible first | exact HB.out | apply below_alloc | apply pw_below_drewN | apply below_drew1) | exact HB.out)) hb); clear HB; have HB := n0_; clear n0_; (try clear hb); (try clear hb2); (try clear hk); (try clear hi)))
      go_meet
      case rel => exact ⟨_, (true), (by first | rfl | (simp; done) | (simp [*]; done)), H', ⟨by first | omega | exact Nat.le_refl _⟩, ⟨by repeat (first | (with_reducible first | exact HB.out | apply below_alloc | apply pw_below_drewN | apply below_drew1) | exact HB.out)⟩⟩
  case rest =>
    clear HC3
    try clear c1
    try clear p2
    try clear c5
    obtain ⟨kq, x19_2, rfl, HA, HJ2, HB⟩ := hcut
    cases kq with
    | zero => exact absurd HA.out (by simp [erewhilelaw34_CalruleBlanks.j0])
    | succ kj2 =>
      have H := HA.out
      clear HA
      simp only [erewhilelaw34_CalruleBlanks.j0] at H
      by_cases c8 : x19_2 = true
      · subst c8
        have H1 : ((erewhilelaw34_awake.f kj2).bind fun t320 => (some t320)) = some r := by rw [if_pos rfl] at H; exact H
        clear H
        have H := H1
        clear H1
        replace H := Option.bind_eq_some_iff.mp H
        obtain ⟨t320, A90, H⟩ := H
        replace H : (some t320) = some r := H
        have A9 := Aside0.mk A90
        clear A90
        obtain rfl := Option.some.inj H
        go_wp2_with (first | ((with_reducible refine gate_callee (f := 13) rfl ?_); refine goesL_ (some 20) rfl rfl Tryd.func13 (by kernel_rfl) rfl #[] rfl (by (try simp only [List.map_toArray, List.map_cons, List.map_nil]); first | done | rfl | (simp only [List.length_drop, List.length_take]; rfl)) ?_; (with_reducible refine (erewhilelaw34_awake.calls kj2  t320 _ ?sideU A9.out).mono ?_); (case sideU => exact Units.below HU.out (by repeat (first | (with_reducible first | exact HB.out | apply below_alloc | apply pw_below_drewN | apply below_drew1) | exact HB.out))); rintro e w10 ⟨rfl, hb⟩; refine ⟨_, rfl, ?_⟩; have n0_ := Aside0.mk (below_step (by repeat (first | (with_reducible first | exact HB.out | apply below_alloc | apply pw_below_drewN | apply below_drew1) | exact HB.out)) hb); clear HB; have HB := n0_; clear n0_; (try clear hb); (try clear hb2); (try clear hk); (try clear hi)))
        go_ret
        exact ⟨by first | rfl | (simp [errW_none, errW_some] <;> rfl) | (simp [*, errW_none, errW_some] <;> rfl), by repeat (first | (with_reducible first | exact HB.out | apply below_alloc | apply pw_below_drewN | apply below_drew1) | exact HB.out)⟩
      · replace c8 := Bool.eq_false_iff.mpr c8
        subst c8
        have H1 : ((calrule_Text.f kj2 l0).bind fun bt321 => (if bt321.2 = 0 then (erewhilelaw34_CalruleBlanks.l0 kj2 l0 a1 bt321.1 (⟨#[10]⟩ : ByteArray) 0) else (some true))) = some r := by rw [if_neg (show ¬ (false = true) by decide)] at H; exact H
        clear H
        have H := H1
        clear H1
        replace H := Option.bind_eq_some_iff.mp H
        obtain ⟨⟨t321, t322⟩, A110, H⟩ := H
        replace H : (if t322 = 0 then (erewhilelaw34_CalruleBlanks.l0 kj2 l0 a1 t321 (⟨#[10]⟩ : ByteArray) 0) else (some true)) = some r := H
        have A11 := Aside0.mk A110
        clear A110
        by_cases c12 : t322 = 0
        · rw [if_pos c12] at H
          have c12b0 : (t322 == 0) = true := beq_iff_eq.mpr c12
          have c12b1 : (t322 != 0) = false := bne_eq_false_iff_eq.mpr c12
          clear c12
          have H' := Aside0.mk H
          clear H
          go_wp2_with (first | ((with_reducible refine gate_callee (f := 17) rfl ?_); refine goesL_ (some 23) rfl rfl Tryd.func17 (by kernel_rfl) rfl #[.slice A0 l0.length c0] rfl (by (try simp only [List.map_toArray, List.map_cons, List.map_nil]); first | done | rfl | (simp only [List.length_drop, List.length_take]; rfl)) ?_; (with_reducible refine (calrule_Text.calls kj2 _ _ l0 t321 t322 _ ?side1 ?side2 ?sideT A11.out).mono ?_); (case sideT => exact Tab.below HT.out (by repeat (first | (with_reducible first | exact HB.out | apply below_alloc | apply pw_below_drewN | apply below_drew1) | exact HB.out))); (case side1 => repeat (first | exact (Kd.C_below HR0.out HB.out) | (with_reducible refine Kd.C_alloc ?_ _) | (with_reducible refine Kd.C_drewN ?_ _) | (with_reducible refine Kd.C_drew ?_))); (case side2 => exact HC0.out); rintro e w13 ⟨rfl, hb⟩; refine ⟨_, rfl, ?_⟩; have n0_ := Aside0.mk (below_step (by repeat (first | (with_reducible first | exact HB.out | apply below_alloc | apply pw_below_drewN | apply below_drew1) | exact HB.out)) hb); clear HB; have HB := n0_; clear n0_; (try clear hb); (try clear hb2); (try clear hk); (try clear hi)))
          go_loopg [7, 8] kj2 (fun kq v7 v8 w' => ∃ (x7_2 : ByteArray) (x8_2 : Int), v7 = .string x7_2 ∧ v8 = .int .i64 x8_2 ∧ Aside0 (erewhilelaw34_CalruleBlanks.l0 kq l0 a1 t321 x7_2 x8_2 = some r) ∧ Aside0 (kq ≤ kj2) ∧ Aside0 (Below w.heap.size w w'))
          case atStart => exact ⟨((⟨#[10]⟩ : ByteArray)), (0), (by first | rfl | (simp; done) | (simp [*]; done)), (by first | rfl | (simp; done) | (simp [*]; done)), H', ⟨Nat.le_refl _⟩, ⟨by repeat (first | (with_reducible first | exact HB.out | apply below_alloc | apply pw_below_drewN | apply below_drew1) | exact HB.out)⟩⟩
          case round =>
            clear H'
            try clear c1
            try clear p2
            try clear c5
            try clear c8
            try clear c12
            try clear c12b0
            try clear c12b1
            try clear c13
            try clear p2
            obtain ⟨x7_2, x8_2, rfl, rfl, HA, HK2, HB⟩ := hrel
            cases gk with
            | zero => exact absurd HA.out (by simp [erewhilelaw34_CalruleBlanks.l0])
            | succ k2 =>
              have H := HA.out
              clear HA
              simp only [erewhilelaw34_CalruleBlanks.l0] at H
              by_cases c14 : x8_2 < (t321.size : Int)
              · rw [if_pos c14] at H
                have c14b0 : decide (x8_2 < (t321.size : Int)) = true := decide_eq_true c14
                clear c14
                have H' := Aside0.mk H
                clear H
                go_wp2
                go_loopg [7, 9] k2 (fun kq v7 v9 w' => ∃ (x7_3 : ByteArray) (x9_3 : Int), v7 = .string x7_3 ∧ v9 = .int .i64 x9_3 ∧ Aside0 (erewhilelaw34_CalruleBlanks.l1 kq l0 a1 t321 x7_3 x8_2 x9_3 = some r) ∧ Aside0 (kq ≤ k2) ∧ Aside0 (Below w.heap.size w w'))
                case atStart => exact ⟨(x7_2), (0), (by first | rfl | (simp; done) | (simp [*]; done)), (by first | rfl | (simp; done) | (simp [*]; done)), H', ⟨Nat.le_refl _⟩, ⟨by repeat (first | (with_reducible first | exact HB.out | apply below_alloc | apply pw_below_drewN | apply below_drew1) | exact HB.out)⟩⟩
                case round =>
                  clear H'
                  try clear c1
                  try clear p2
                  try clear c5
                  try clear c8
                  try clear c12
                  try clear c12b0
                  try clear c12b1
                  try clear c13
                  try clear c14
                  try clear c14b0
                  try clear p2
                  obtain ⟨x7_3, x9_3, rfl, rfl, HA, HK3, HB⟩ := hrel
                  cases gk with
                  | zero => exact absurd HA.out (by simp [erewhilelaw34_CalruleBlanks.l1])
                  | succ k3 =>
                    have H := HA.out
                    clear HA
                    simp only [erewhilelaw34_CalruleBlanks.l1] at H
                    by_cases c15 : x9_3 ≤ (Int.tmod (wrap64 (a1)) 3)
                    · rw [if_pos c15] at H
                      have c15b0 : decide (x9_3 ≤ (Int.tmod (wrap64 (a1)) 3)) = true := decide_eq_true c15
                      clear c15
                      by_cases c16 : 0 ≤ x8_2
                      · rw [if_pos c16] at H
                        have c16b0 : decide (0 ≤ x8_2) = true := decide_eq_true c16
                        clear c16
                        by_cases c17 : x8_2 < (t321.size : Int)
                        · rw [if_pos c17] at H
                          have c17b0 : decide (x8_2 < (t321.size : Int)) = true := decide_eq_true c17
                          clear c17
                          by_cases c19 : (bt t321 x8_2) = 32
                          · rw [if_pos c19] at H
                            have c19b0 : ((bt t321 x8_2) == 32) = true := beq_iff_eq.mpr c19
                            have c19b1 : ((bt t321 x8_2) != 32) = false := bne_eq_false_iff_eq.mpr c19
                            clear c19
                            have c20b0 := eq_true (of_decide_eq_true (by first | (with_reducible assumption) | assumption) : 0 ≤ x8_2)
                            by_cases c21 : x8_2 ≤ (wrap64 (x8_2 + 1))
                            · rw [if_pos c21] at H
                              have c21b0 := eq_true c21
                              have c21b1 : decide (x8_2 ≤ (wrap64 (x8_2 + 1))) = true := decide_eq_true c21
                              by_cases c22 : (wrap64 (x8_2 + 1)) ≤ (t321.size : Int)
                              · rw [if_pos c22] at H
                                have c22b0 := eq_true c22
                                have c22b1 : decide ((wrap64 (x8_2 + 1)) ≤ (t321.size : Int)) = true := decide_eq_true c22
                                by_cases c23 : x7_3.size + (t321.extract (x8_2 : Int).toNat ((wrap64 (x8_2 + 1)) : Int).toNat).size ≤ 9223372036854775807
                                · rw [if_pos c23] at H
                                  have c23b0 := eq_true c23
                                  have c23b1 : decide (x7_3.size + (t321.extract (x8_2 : Int).toNat ((wrap64 (x8_2 + 1)) : Int).toNat).size ≤ 9223372036854775807) = true := decide_eq_true c23
                                  try have c23b2 : (9223372036854775807 < x7_3.size + (t321.extract (x8_2 : Int).toNat ((wrap64 (x8_2 + 1)) : Int).toNat).size) = False := eq_false (Nat.not_lt.2 c23)
                                  have H' := Aside0.mk H
                                  clear H
                                  have p18 : 0 ≤ (x8_2 : Int) := of_decide_eq_true (by first | (with_reducible assumption) | assumption)
                                  have q18 : x8_2 < (t321.size : Int) := of_decide_eq_true (by first | (with_reducible assumption) | assumption)
                                  have hx18 := bt_at t321 x8_2
                                  replace p18 := eq_true p18
                                  replace q18 := eq_true q18
                                  go_wp2
                                  go_roundg k3
                                  case measure => have := HJ2.out; have := HK2.out; have := HK3.out; omega
                                  case rel => exact ⟨(x7_3 ++ (t321.extract (x8_2 : Int).toNat ((wrap64 (x8_2 + 1)) : Int).toNat)), (wrap64 (x9_3 + 1)), (by first | rfl | (simp; done) | (simp [*]; done)), (by first | rfl | (simp; done) | (simp [*]; done)), H', ⟨by have := HJ2.out; have := HK2.out; have := HK3.out; omega⟩, ⟨by repeat (first | (with_reducible first | exact HB.out | apply below_alloc | apply pw_below_drewN | apply below_drew1) | exact HB.out)⟩⟩
                                · rw [if_neg c23] at H
                                  exact absurd H (by simp)
                              · rw [if_neg c22] at H
                                exact absurd H (by simp)
                            · rw [if_neg c21] at H
                              exact absurd H (by simp)
                          · rw [if_neg c19] at H
                            have c19b0 : ((bt t321 x8_2) == 32) = false := beq_eq_false_iff_ne.mpr c19
                            have c19b1 : ((bt t321 x8_2) != 32) = true := bne_iff_ne.mpr c19
                            by_cases c25 : (bt t321 x8_2) = 10
                            · rw [if_pos c25] at H
                              have c25b0 : ((bt t321 x8_2) == 10) = true := beq_iff_eq.mpr c25
                              have c25b1 : ((bt t321 x8_2) != 10) = false := bne_eq_false_iff_eq.mpr c25
                              clear c25
                              have c26b0 := eq_true (of_decide_eq_true (by first | (with_reducible assumption) | assumption) : 0 ≤ x8_2)
                              by_cases c27 : x8_2 ≤ (wrap64 (x8_2 + 1))
                              · rw [if_pos c27] at H
                                have c27b0 := eq_true c27
                                have c27b1 : decide (x8_2 ≤ (wrap64 (x8_2 + 1))) = true := decide_eq_true c27
                                by_cases c28 : (wrap64 (x8_2 + 1)) ≤ (t321.size : Int)
                                · rw [if_pos c28] at H
                                  have c28b0 := eq_true c28
                                  have c28b1 : decide ((wrap64 (x8_2 + 1)) ≤ (t321.size : Int)) = true := decide_eq_true c28
                                  by_cases c29 : x7_3.size + (t321.extract (x8_2 : Int).toNat ((wrap64 (x8_2 + 1)) : Int).toNat).size ≤ 9223372036854775807
                                  · rw [if_pos c29] at H
                                    have c29b0 := eq_true c29
                                    have c29b1 : decide (x7_3.size + (t321.extract (x8_2 : Int).toNat ((wrap64 (x8_2 + 1)) : Int).toNat).size ≤ 9223372036854775807) = true := decide_eq_true c29
                                    try have c29b2 : (9223372036854775807 < x7_3.size + (t321.extract (x8_2 : Int).toNat ((wrap64 (x8_2 + 1)) : Int).toNat).size) = False := eq_false (Nat.not_lt.2 c29)
                                    have H' := Aside0.mk H
                                    clear H
                                    have p18 : 0 ≤ (x8_2 : Int) := of_decide_eq_true (by first | (with_reducible assumption) | assumption)
                                    have q18 : x8_2 < (t321.size : Int) := of_decide_eq_true (by first | (with_reducible assumption) | assumption)
                                    have hx18 := bt_at t321 x8_2
                                    replace p18 := eq_true p18
                                    replace q18 := eq_true q18
                                    have p24 : 0 ≤ (x8_2 : Int) := of_decide_eq_true (by first | (with_reducible assumption) | assumption)
                                    have q24 : x8_2 < (t321.size : Int) := of_decide_eq_true (by first | (with_reducible assumption) | assumption)
                                    have hx24 := bt_at t321 x8_2
                                    replace p24 := eq_true p24
                                    replace q24 := eq_true q24
                                    go_wp2
                                    go_roundg k3
                                    case measure => have := HJ2.out; have := HK2.out; have := HK3.out; omega
                                    case rel => exact ⟨(x7_3 ++ (t321.extract (x8_2 : Int).toNat ((wrap64 (x8_2 + 1)) : Int).toNat)), (wrap64 (x9_3 + 1)), (by first | rfl | (simp; done) | (simp [*]; done)), (by first | rfl | (simp; done) | (simp [*]; done)), H', ⟨by have := HJ2.out; have := HK2.out; have := HK3.out; omega⟩, ⟨by repeat (first | (with_reducible first | exact HB.out | apply below_alloc | apply pw_below_drewN | apply below_drew1) | exact HB.out)⟩⟩
                                  · rw [if_neg c29] at H
                                    exact absurd H (by simp)
                                · rw [if_neg c28] at H
                                  exact absurd H (by simp)
                              · rw [if_neg c27] at H
                                exact absurd H (by simp)
                            · rw [if_neg c25] at H
                              have c25b0 : ((bt t321 x8_2) == 10) = false := beq_eq_false_iff_ne.mpr c25
                              have c25b1 : ((bt t321 x8_2) != 10) = true := bne_iff_ne.mpr c25
                              have c32b0 := eq_true (of_decide_eq_true (by first | (with_reducible assumption) | assumption) : 0 ≤ x8_2)
                              by_cases c33 : x8_2 ≤ (wrap64 (x8_2 + 1))
                              · rw [if_pos c33] at H
                                have c33b0 := eq_true c33
                                have c33b1 : decide (x8_2 ≤ (wrap64 (x8_2 + 1))) = true := decide_eq_true c33
                                by_cases c34 : (wrap64 (x8_2 + 1)) ≤ (t321.size : Int)
                                · rw [if_pos c34] at H
                                  have c34b0 := eq_true c34
                                  have c34b1 : decide ((wrap64 (x8_2 + 1)) ≤ (t321.size : Int)) = true := decide_eq_true c34
                                  by_cases c35 : x7_3.size + (t321.extract (x8_2 : Int).toNat ((wrap64 (x8_2 + 1)) : Int).toNat).size ≤ 9223372036854775807
                                  · rw [if_pos c35] at H
                                    have c35b0 := eq_true c35
                                    have c35b1 : decide (x7_3.size + (t321.extract (x8_2 : Int).toNat ((wrap64 (x8_2 + 1)) : Int).toNat).size ≤ 9223372036854775807) = true := decide_eq_true c35
                                    try have c35b2 : (9223372036854775807 < x7_3.size + (t321.extract (x8_2 : Int).toNat ((wrap64 (x8_2 + 1)) : Int).toNat).size) = False := eq_false (Nat.not_lt.2 c35)
                                    have H' := Aside0.mk H
                                    clear H
                                    have p18 : 0 ≤ (x8_2 : Int) := of_decide_eq_true (by first | (with_reducible assumption) | assumption)
                                    have q18 : x8_2 < (t321.size : Int) := of_decide_eq_true (by first | (with_reducible assumption) | assumption)
                                    have hx18 := bt_at t321 x8_2
                                    replace p18 := eq_true p18
                                    replace q18 := eq_true q18
                                    have p24 : 0 ≤ (x8_2 : Int) := of_decide_eq_true (by first | (with_reducible assumption) | assumption)
                                    have q24 : x8_2 < (t321.size : Int) := of_decide_eq_true (by first | (with_reducible assumption) | assumption)
                                    have hx24 := bt_at t321 x8_2
                                    replace p24 := eq_true p24
                                    replace q24 := eq_true q24
                                    have p30 : 0 ≤ (x8_2 : Int) := of_decide_eq_true (by first | (with_reducible assumption) | assumption)
                                    have q30 : x8_2 < (t321.size : Int) := of_decide_eq_true (by first | (with_reducible assumption) | assumption)
                                    have hx30 := bt_at t321 x8_2
                                    replace p30 := eq_true p30
                                    replace q30 := eq_true q30
                                    have p31 : 0 ≤ (x8_2 : Int) := of_decide_eq_true (by first | (with_reducible assumption) | assumption)
                                    have q31 : x8_2 < (t321.size : Int) := of_decide_eq_true (by first | (with_reducible assumption) | assumption)
                                    have hx31 := bt_at t321 x8_2
                                    replace p31 := eq_true p31
                                    replace q31 := eq_true q31
                                    go_wp2
                                    go_roundg k3
                                    case measure => have := HJ2.out; have := HK2.out; have := HK3.out; omega
                                    case rel => exact ⟨(x7_3 ++ (t321.extract (x8_2 : Int).toNat ((wrap64 (x8_2 + 1)) : Int).toNat)), (wrap64 (x8_2 + 1)), (by first | rfl | (simp; done) | (simp [*]; done)), (by first | rfl | (simp; done) | (simp [*]; done)), H', ⟨by have := HJ2.out; have := HK2.out; have := HK3.out; omega⟩, ⟨by repeat (first | (with_reducible first | exact HB.out | apply below_alloc | apply pw_below_drewN | apply below_drew1) | exact HB.out)⟩⟩
                                  · rw [if_neg c35] at H
                                    exact absurd H (by simp)
                                · rw [if_neg c34] at H
                                  exact absurd H (by simp)
                              · rw [if_neg c33] at H
                                exact absurd H (by simp)
                        · rw [if_neg c17] at H
                          exact absurd H (by simp)
                      · rw [if_neg c16] at H
                        exact absurd H (by simp)
                    · rw [if_neg c15] at H
                      have c15b0 : decide (x9_3 ≤ (Int.tmod (wrap64 (a1)) 3)) = false := decide_eq_false c15
                      clear c15
                      by_cases c36 : 0 ≤ x8_2
                      · rw [if_pos c36] at H
                        have c36b0 : decide (0 ≤ x8_2) = true := decide_eq_true c36
                        clear c36
                        by_cases c37 : x8_2 < (t321.size : Int)
                        · rw [if_pos c37] at H
                          have c37b0 : decide (x8_2 < (t321.size : Int)) = true := decide_eq_true c37
                          clear c37
                          by_cases c39 : (bt t321 x8_2) = 32
                          · rw [if_pos c39] at H
                            have c39b0 : ((bt t321 x8_2) == 32) = true := beq_iff_eq.mpr c39
                            have c39b1 : ((bt t321 x8_2) != 32) = false := bne_eq_false_iff_eq.mpr c39
                            clear c39
                            have H' := Aside0.mk H
                            clear H
                            have p38 : 0 ≤ (x8_2 : Int) := of_decide_eq_true (by first | (with_reducible assumption) | assumption)
                            have q38 : x8_2 < (t321.size : Int) := of_decide_eq_true (by first | (with_reducible assumption) | assumption)
                            have hx38 := bt_at t321 x8_2
                            replace p38 := eq_true p38
                            replace q38 := eq_true q38
                            go_wp2
                            go_roundg k3
                            case measure => have := HJ2.out; have := HK2.out; have := HK3.out; omega
                            case rel => exact ⟨(x7_3), (wrap64 (x8_2 + 1)), (by first | rfl | (simp; done) | (simp [*]; done)), (by first | rfl | (simp; done) | (simp [*]; done)), H', ⟨by have := HJ2.out; have := HK2.out; have := HK3.out; omega⟩, ⟨by repeat (first | (with_reducible first | exact HB.out | apply below_alloc | apply pw_below_drewN | apply below_drew1) | exact HB.out)⟩⟩
                          · rw [if_neg c39] at H
                            have c39b0 : ((bt t321 x8_2) == 32) = false := beq_eq_false_iff_ne.mpr c39
                            have c39b1 : ((bt t321 x8_2) != 32) = true := bne_iff_ne.mpr c39
                            by_cases c41 : (bt t321 x8_2) = 10
                            · rw [if_pos c41] at H
                              have c41b0 : ((bt t321 x8_2) == 10) = true := beq_iff_eq.mpr c41
                              have c41b1 : ((bt t321 x8_2) != 10) = false := bne_eq_false_iff_eq.mpr c41
                              clear c41
                              have H' := Aside0.mk H
                              clear H
                              have p38 : 0 ≤ (x8_2 : Int) := of_decide_eq_true (by first | (with_reducible assumption) | assumption)
                              have q38 : x8_2 < (t321.size : Int) := of_decide_eq_true (by first | (with_reducible assumption) | assumption)
                              have hx38 := bt_at t321 x8_2
                              replace p38 := eq_true p38
                              replace q38 := eq_true q38
                              have p40 : 0 ≤ (x8_2 : Int) := of_decide_eq_true (by first | (with_reducible assumption) | assumption)
                              have q40 : x8_2 < (t321.size : Int) := of_decide_eq_true (by first | (with_reducible assumption) | assumption)
                              have hx40 := bt_at t321 x8_2
                              replace p40 := eq_true p40
                              replace q40 := eq_true q40
                              go_wp2
                              go_roundg k3
                              case measure => have := HJ2.out; have := HK2.out; have := HK3.out; omega
                              case rel => exact ⟨(x7_3), (wrap64 (x8_2 + 1)), (by first | rfl | (simp; done) | (simp [*]; done)), (by first | rfl | (simp; done) | (simp [*]; done)), H', ⟨by have := HJ2.out; have := HK2.out; have := HK3.out; omega⟩, ⟨by repeat (first | (with_reducible first | exact HB.out | apply below_alloc | apply pw_below_drewN | apply below_drew1) | exact HB.out)⟩⟩
                            · rw [if_neg c41] at H
                              have c41b0 : ((bt t321 x8_2) == 10) = false := beq_eq_false_iff_ne.mpr c41
                              have c41b1 : ((bt t321 x8_2) != 10) = true := bne_iff_ne.mpr c41
                              have c42b0 := eq_true (of_decide_eq_true (by first | (with_reducible assumption) | assumption) : 0 ≤ x8_2)
                              by_cases c43 : x8_2 ≤ (wrap64 (x8_2 + 1))
                              · rw [if_pos c43] at H
                                have c43b0 := eq_true c43
                                have c43b1 : decide (x8_2 ≤ (wrap64 (x8_2 + 1))) = true := decide_eq_true c43
                                by_cases c44 : (wrap64 (x8_2 + 1)) ≤ (t321.size : Int)
                                · rw [if_pos c44] at H
                                  have c44b0 := eq_true c44
                                  have c44b1 : decide ((wrap64 (x8_2 + 1)) ≤ (t321.size : Int)) = true := decide_eq_true c44
                                  by_cases c45 : x7_3.size + (t321.extract (x8_2 : Int).toNat ((wrap64 (x8_2 + 1)) : Int).toNat).size ≤ 9223372036854775807
                                  · rw [if_pos c45] at H
                                    have c45b0 := eq_true c45
                                    have c45b1 : decide (x7_3.size + (t321.extract (x8_2 : Int).toNat ((wrap64 (x8_2 + 1)) : Int).toNat).size ≤ 9223372036854775807) = true := decide_eq_true c45
                                    try have c45b2 : (9223372036854775807 < x7_3.size + (t321.extract (x8_2 : Int).toNat ((wrap64 (x8_2 + 1)) : Int).toNat).size) = False := eq_false (Nat.not_lt.2 c45)
                                    have H' := Aside0.mk H
                                    clear H
                                    have p38 : 0 ≤ (x8_2 : Int) := of_decide_eq_true (by first | (with_reducible assumption) | assumption)
                                    have q38 : x8_2 < (t321.size : Int) := of_decide_eq_true (by first | (with_reducible assumption) | assumption)
                                    have hx38 := bt_at t321 x8_2
                                    replace p38 := eq_true p38
                                    replace q38 := eq_true q38
                                    have p40 : 0 ≤ (x8_2 : Int) := of_decide_eq_true (by first | (with_reducible assumption) | assumption)
                                    have q40 : x8_2 < (t321.size : Int) := of_decide_eq_true (by first | (with_reducible assumption) | assumption)
                                    have hx40 := bt_at t321 x8_2
                                    replace p40 := eq_true p40
                                    replace q40 := eq_true q40
                                    go_wp2
                                    go_roundg k3
                                    case measure => have := HJ2.out; have := HK2.out; have := HK3.out; omega
                                    case rel => exact ⟨(x7_3 ++ (t321.extract (x8_2 : Int).toNat ((wrap64 (x8_2 + 1)) : Int).toNat)), (wrap64 (x8_2 + 1)), (by first | rfl | (simp; done) | (simp [*]; done)), (by first | rfl | (simp; done) | (simp [*]; done)), H', ⟨by have := HJ2.out; have := HK2.out; have := HK3.out; omega⟩, ⟨by repeat (first | (with_reducible first | exact HB.out | apply below_alloc | apply pw_below_drewN | apply below_drew1) | exact HB.out)⟩⟩
                                  · rw [if_neg c45] at H
                                    exact absurd H (by simp)
                                · rw [if_neg c44] at H
                                  exact absurd H (by simp)
                              · rw [if_neg c43] at H
                                exact absurd H (by simp)
                        · rw [if_neg c37] at H
                          exact absurd H (by simp)
                      · rw [if_neg c36] at H
                        exact absurd H (by simp)
              · rw [if_neg c14] at H
                have c14b0 : decide (x8_2 < (t321.size : Int)) = false := decide_eq_false c14
                clear c14
                by_cases c46 : 2 + x7_2.size ≤ 9223372036854775807
                · rw [if_pos c46] at H
                  have c46b0 := eq_true c46
                  have c46b1 : decide (2 + x7_2.size ≤ 9223372036854775807) = true := decide_eq_true c46
                  try have c46b2 : (9223372036854775807 < 2 + x7_2.size) = False := eq_false (Nat.not_lt.2 c46)
                  by_cases c47 : ((⟨#[32, 32]⟩ : ByteArray) ++ x7_2).size + 1 ≤ 9223372036854775807
                  · rw [if_pos c47] at H
                    have c47b0 := eq_true c47
                    have c47b1 : decide (((⟨#[32, 32]⟩ : ByteArray) ++ x7_2).size + 1 ≤ 9223372036854775807) = true := decide_eq_true c47
                    try have c47b2 : (9223372036854775807 < ((⟨#[32, 32]⟩ : ByteArray) ++ x7_2).size + 1) = False := eq_false (Nat.not_lt.2 c47)
                    try have c47b3 : (9223372036854775807 < 2 + x7_2.size + 1) = False := eq_false (by have e : ((⟨#[32, 32]⟩ : ByteArray) ++ x7_2).size = 2 + x7_2.size := (by rw [ByteArray.size_append]; rfl); omega)
                    replace H := Option.bind_eq_some_iff.mp H
                    obtain ⟨⟨t323, t324, t325⟩, A480, H⟩ := H
                    replace H : (if t325 = 0 then ((erewhileref34_Same.f k2 t323 l0).bind fun t328 => (some t328)) else (some false)) = some r := H
                    have A48 := Aside0.mk A480
                    clear A480
                    by_cases c49 : t325 = 0
                    · rw [if_pos c49] at H
                      have c49b0 : (t325 == 0) = true := beq_iff_eq.mpr c49
                      have c49b1 : (t325 != 0) = false := bne_eq_false_iff_eq.mpr c49
                      clear c49
                      replace H := Option.bind_eq_some_iff.mp H
                      obtain ⟨t328, A500, H⟩ := H
                      replace H : (some t328) = some r := H
                      have A50 := Aside0.mk A500
                      clear A500
                      obtain rfl := Option.some.inj H
                      go_wp2_with (first | ((with_reducible refine gate_callee (f := 14) rfl ?_); refine goesL_ (some 81) rfl rfl Tryd.func14 (by kernel_rfl) rfl #[.string (((⟨#[32, 32]⟩ : ByteArray) ++ x7_2) ++ (⟨#[32]⟩ : ByteArray))] rfl (by (try simp only [List.map_toArray, List.map_cons, List.map_nil]); first | done | rfl | (simp only [List.length_drop, List.length_take]; rfl)) ?_; (with_reducible refine (calrule_Parse.calls k2 (((⟨#[32, 32]⟩ : ByteArray) ++ x7_2) ++ (⟨#[32]⟩ : ByteArray)) t323 t324 t325 _ ?sideU A48.out).mono ?_); (case sideU => exact Units.below HU.out (by repeat (first | (with_reducible first | exact HB.out | apply below_alloc | apply pw_below_drewN | apply below_drew1) | exact HB.out))); rintro e w51 ⟨v326, rfl, ho0, hb⟩; refine ⟨_, rfl, ?_⟩; have n0_ := Aside0.mk (Kd.R_lower ho0 (below_size (by repeat (first | (with_reducible first | exact HB.out | apply below_alloc | apply pw_below_drewN | apply below_drew1) | exact HB.out)))); have n1_ := Aside0.mk (below_step (by repeat (first | (with_reducible first | exact HB.out | apply below_alloc | apply pw_below_drewN | apply below_drew1) | exact HB.out)) hb); clear HB; have HO327 := n0_; have HB := n1_; clear n0_ n1_; (try clear hb); (try clear hb2); (try clear hk); (try clear hi); (try clear ho0); obtain ⟨Ao52, co52, eo52⟩ := Kd.R_slice HO327.out; subst eo52) | (go_at_call 16; (with_reducible refine (erewhileref34_Same.calls k2 _ _ t323 _ _ l0 t328 _ ?side1 ?side2 ?side3 ?side4 A50.out).mono ?_); (case side1 => repeat (first | exact (Kd.R_reads' HO327.out).2.2 | (with_reducible refine Kd.C_alloc ?_ _) | (with_reducible refine Kd.C_drewN ?_ _) | (with_reducible refine Kd.C_drew ?_))); (case side2 => exact (Kd.R_reads' HO327.out).2.1); (case side3 => repeat (first | exact (Kd.C_below HR0.out HB.out) | (with_reducible refine Kd.C_alloc ?_ _) | (with_reducible refine Kd.C_drewN ?_ _) | (with_reducible refine Kd.C_drew ?_))); (case side4 => exact HC0.out); rintro e w' ⟨rfl, ⟨nd, rfl⟩⟩))
                      go_ret
                      exact ⟨by first | rfl | (simp [errW_none, errW_some] <;> rfl) | (simp [*, errW_none, errW_some] <;> rfl), by repeat (first | (with_reducible first | exact HB.out | apply below_alloc | apply pw_below_drewN | apply below_drew1) | exact HB.out)⟩
                    · rw [if_neg c49] at H
                      have c49b0 : (t325 == 0) = false := beq_eq_false_iff_ne.mpr c49
                      have c49b1 : (t325 != 0) = true := bne_iff_ne.mpr c49
                      obtain rfl := Option.some.inj H
                      go_wp2_with (first | ((with_reducible refine gate_callee (f := 14) rfl ?_); refine goesL_ (some 81) rfl rfl Tryd.func14 (by kernel_rfl) rfl #[.string (((⟨#[32, 32]⟩ : ByteArray) ++ x7_2) ++ (⟨#[32]⟩ : ByteArray))] rfl (by (try simp only [List.map_toArray, List.map_cons, List.map_nil]); first | done | rfl | (simp only [List.length_drop, List.length_take]; rfl)) ?_; (with_reducible refine (calrule_Parse.calls k2 (((⟨#[32, 32]⟩ : ByteArray) ++ x7_2) ++ (⟨#[32]⟩ : ByteArray)) t323 t324 t325 _ ?sideU A48.out).mono ?_); (case sideU => exact Units.below HU.out (by repeat (first | (with_reducible first | exact HB.out | apply below_alloc | apply pw_below_drewN | apply below_drew1) | exact HB.out))); rintro e w53 ⟨v326, rfl, ho0, hb⟩; refine ⟨_, rfl, ?_⟩; have n0_ := Aside0.mk (Kd.R_lower ho0 (below_size (by repeat (first | (with_reducible first | exact HB.out | apply below_alloc | apply pw_below_drewN | apply below_drew1) | exact HB.out)))); have n1_ := Aside0.mk (below_step (by repeat (first | (with_reducible first | exact HB.out | apply below_alloc | apply pw_below_drewN | apply below_drew1) | exact HB.out)) hb); clear HB; have HO327 := n0_; have HB := n1_; clear n0_ n1_; (try clear hb); (try clear hb2); (try clear hk); (try clear hi); (try clear ho0)))
                      go_ret
                      exact ⟨by first | rfl | (simp [errW_none, errW_some] <;> rfl) | (simp [*, errW_none, errW_some] <;> rfl), by repeat (first | (with_reducible first | exact HB.out | apply below_alloc | apply pw_below_drewN | apply below_drew1) | exact HB.out)⟩
                  · rw [if_neg c47] at H
                    exact absurd H (by simp)
                · rw [if_neg c46] at H
                  exact absurd H (by simp)
        · rw [if_neg c12] at H
          have c12b0 : (t322 == 0) = false := beq_eq_false_iff_ne.mpr c12
          have c12b1 : (t322 != 0) = true := bne_iff_ne.mpr c12
          obtain rfl := Option.some.inj H
          go_wp2_with (first | ((with_reducible refine gate_callee (f := 17) rfl ?_); refine goesL_ (some 23) rfl rfl Tryd.func17 (by kernel_rfl) rfl #[.slice A0 l0.length c0] rfl (by (try simp only [List.map_toArray, List.map_cons, List.map_nil]); first | done | rfl | (simp only [List.length_drop, List.length_take]; rfl)) ?_; (with_reducible refine (calrule_Text.calls kj2 _ _ l0 t321 t322 _ ?side1 ?side2 ?sideT A11.out).mono ?_); (case sideT => exact Tab.below HT.out (by repeat (first | (with_reducible first | exact HB.out | apply below_alloc | apply pw_below_drewN | apply below_drew1) | exact HB.out))); (case side1 => repeat (first | exact (Kd.C_below HR0.out HB.out) | (with_reducible refine Kd.C_alloc ?_ _) | (with_reducible refine Kd.C_drewN ?_ _) | (with_reducible refine Kd.C_drew ?_))); (case side2 => exact HC0.out); rintro e w54 ⟨rfl, hb⟩; refine ⟨_, rfl, ?_⟩; have n0_ := Aside0.mk (below_step (by repeat (first | (with_reducible first | exact HB.out | apply below_alloc | apply pw_below_drewN | apply below_drew1) | exact HB.out)) hb); clear HB; have HB := n0_; clear n0_; (try clear hb); (try clear hb2); (try clear hk); (try clear hi)))
          go_ret
          exact ⟨by first | rfl | (simp [errW_none, errW_some] <;> rfl) | (simp [*, errW_none, errW_some] <;> rfl), by repeat (first | (with_reducible first | exact HB.out | apply below_alloc | apply pw_below_drewN | apply below_drew1) | exact HB.out)⟩

end Go.Proofs.YthnifjggnjcenaaDoor.All
