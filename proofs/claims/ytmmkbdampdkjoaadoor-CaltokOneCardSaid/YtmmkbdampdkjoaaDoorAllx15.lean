-- Printed by a program (wip/mkprint.sh over the kit's print.py) out of the translation; Lean checks it.
import Derived.Test.YtmmkbdampdkjoaaDoorAllx0
import Derived.Test.YtmmkbdampdkjoaaDoorAllx3
import Derived.Test.YtmmkbdampdkjoaaDoorAllx4
import Derived.Test.YtmmkbdampdkjoaaDoorAllx12
namespace Go.Proofs.YtmmkbdampdkjoaaDoor.All
open Go.RowKit Go.Proofs.YtmmkbdampdkjoaaDoorW.PrintWords Go.Proofs.YtmmkbdampdkjoaaDoorW.PrintLast Go.Proofs.YtmmkbdampdkjoaaDoorW.PrintMore
attribute [local go_sem] max2_int min2_int max_two min_two max_three min_three max_four min_four   -- for this text's walks alone
set_option linter.unusedVariables false
set_option linter.unusedSimpArgs false

/-! ### erewhilelaw33_CaltokOne: function 8 -/
mutual
def erewhilelaw33_CaltokOne.j0 : Nat → List Int → Int → ByteArray → Bool → Option (Bool)
  | 0, _, _, _, _ => none
  | k + 1, x1, x2, x7, x75 => if x75 = true then (some false) else ((some (([(97 + (Int.tmod x2 26)) % 256] : List Int) : List Int)).bind fun y262 => (if 1 + x7.size ≤ 9223372036854775807 then (if ((⟨#[32]⟩ : ByteArray) ++ x7).size + (strOfNums y262).size ≤ 9223372036854775807 then ((caltok_Lex.f k (((⟨#[32]⟩ : ByteArray) ++ x7) ++ (strOfNums y262))).bind fun bt265 => (if bt265.2.2 = 17 then (erewhilelaw33_CaltokOne.j1 k x1 (strOfNums y262) (bt265.2.1 != 1)) else (erewhilelaw33_CaltokOne.j1 k x1 (strOfNums y262) true))) else (none)) else (none)))
def erewhilelaw33_CaltokOne.j1 : Nat → List Int → ByteArray → Bool → Option (Bool)
  | 0, _, _, _ => none
  | k + 1, x1, x11, x95 => if x95 = true then (some false) else (erewhilelaw33_CaltokOne.l0 k x1 x11 (⟨#[]⟩ : ByteArray) 0)
def erewhilelaw33_CaltokOne.l0 : Nat → List Int → ByteArray → ByteArray → Int → Option (Bool)
  | 0, _, _, _, _ => none
  | k + 1, x1, x11, x15, x16 => if x16 < (x1.length : Int) then (if 0 ≤ x16 then ((some (([(97 + (Int.tmod (rd x1 x16) 26)) % 256] : List Int) : List Int)).bind fun y271 => (if x15.size + (strOfNums y271).size ≤ 9223372036854775807 then (erewhilelaw33_CaltokOne.l0 k x1 x11 (x15 ++ (strOfNums y271)) (wrap64 (x16 + 1))) else (none))) else (none)) else (if x15.size + x11.size ≤ 9223372036854775807 then ((caltok_Lex.f k (x15 ++ x11)).bind fun bt274 => (if bt274.2.2 = 0 then (if (bt274.1.length : Int) = 2 then (if 0 < (bt274.1.length : Int) then (if ((rd_T33 bt274.1 0).f0) = 1 then (if ((rd_T33 bt274.1 0).f1).toList = (x15 ++ x11).toList then (if ((rd_T33 bt274.1 0).f3) = 0 then (some (((rd_T33 bt274.1 0).f2) == 0)) else (some false)) else (some false)) else (some false)) else (none)) else (some false)) else (some false))) else (none))
end
def erewhilelaw33_CaltokOne.f (k : Nat) (a0 : Int) (l1 : List Int) (a2 : Int) : Option (Bool) := (erewhilelaw33_awake.f k).bind fun t251 => (if t251 = true then (if (l1.length : Int) > 40 then (some true) else ((caltok_Text.f k (wrap64 (Int.tmod a0 1073741824))).bind fun t252 => ((caltok_Lex.f k t252).bind fun bt253 => (if bt253.2.2 = 0 then (if (bt253.1.length : Int) = 2 then (if 0 < (bt253.1.length : Int) then (if ((rd_T33 bt253.1 0).f0) = 2 then (if ((rd_T33 bt253.1 0).f2) = (wrap64 (Int.tmod a0 1073741824)) then (if ((rd_T33 bt253.1 0).f1).toList = t252.toList then (if 1 < (bt253.1.length : Int) then (erewhilelaw33_CaltokOne.j0 k l1 a2 t252 (((rd_T33 bt253.1 1).f3) != (t252.size : Int))) else (none)) else (erewhilelaw33_CaltokOne.j0 k l1 a2 t252 true)) else (erewhilelaw33_CaltokOne.j0 k l1 a2 t252 true)) else (erewhilelaw33_CaltokOne.j0 k l1 a2 t252 true)) else (none)) else (erewhilelaw33_CaltokOne.j0 k l1 a2 t252 true)) else (erewhilelaw33_CaltokOne.j0 k l1 a2 t252 true))))) else (some false))
theorem erewhilelaw33_CaltokOne.mono_l : ∀ k, (∀ y0 y1 y2 y3, LeO (erewhilelaw33_CaltokOne.j0 k y0 y1 y2 y3) (erewhilelaw33_CaltokOne.j0 (k + 1) y0 y1 y2 y3)) ∧ (∀ y0 y1 y2, LeO (erewhilelaw33_CaltokOne.j1 k y0 y1 y2) (erewhilelaw33_CaltokOne.j1 (k + 1) y0 y1 y2)) ∧ (∀ y0 y1 y2 y3, LeO (erewhilelaw33_CaltokOne.l0 k y0 y1 y2 y3) (erewhilelaw33_CaltokOne.l0 (k + 1) y0 y1 y2 y3))
  | 0 => ⟨fun _ _ _ _ r h => by simp [erewhilelaw33_CaltokOne.j0] at h, fun _ _ _ r h => by simp [erewhilelaw33_CaltokOne.j1] at h, fun _ _ _ _ r h => by simp [erewhilelaw33_CaltokOne.l0] at h⟩
  | k + 1 => by
    obtain ⟨ih0, ih1, ih2⟩ := erewhilelaw33_CaltokOne.mono_l k
    refine ⟨?_, ?_, ?_⟩
    · intro y0 y1 y2 y3
      unfold erewhilelaw33_CaltokOne.j0
      repeat' first
      | (with_reducible exact ih0 _ _ _ _)
      | (with_reducible exact ih1 _ _ _)
      | (with_reducible exact ih2 _ _ _ _)
      | (with_reducible exact caltok_Lex.mono _ _)
      | (with_reducible exact caltok_Text.mono _ _)
      | (with_reducible exact erewhilelaw33_awake.mono _)
      | (with_reducible exact LeO.refl _)
      | (with_reducible exact LeO.none _)
      | (with_reducible refine LeO.ite ?_ ?_)
      | (with_reducible refine LeO.bind ?_ (fun _ => ?_))
      | exact ih0 _ _ _ _
      | exact ih1 _ _ _
      | exact ih2 _ _ _ _
      | exact caltok_Lex.mono _ _
      | exact caltok_Text.mono _ _
      | exact erewhilelaw33_awake.mono _
      | exact LeO.none _
      | refine LeO.ite ?_ ?_
      | refine LeO.bind ?_ (fun _ => ?_)
    · intro y0 y1 y2
      unfold erewhilelaw33_CaltokOne.j1
      repeat' first
      | (with_reducible exact ih0 _ _ _ _)
      | (with_reducible exact ih1 _ _ _)
      | (with_reducible exact ih2 _ _ _ _)
      | (with_reducible exact caltok_Lex.mono _ _)
      | (with_reducible exact caltok_Text.mono _ _)
      | (with_reducible exact erewhilelaw33_awake.mono _)
      | (with_reducible exact LeO.refl _)
      | (with_reducible exact LeO.none _)
      | (with_reducible refine LeO.ite ?_ ?_)
      | (with_reducible refine LeO.bind ?_ (fun _ => ?_))
      | exact ih0 _ _ _ _
      | exact ih1 _ _ _
      | exact ih2 _ _ _ _
      | exact caltok_Lex.mono _ _
      | exact caltok_Text.mono _ _
      | exact erewhilelaw33_awake.mono _
      | exact LeO.none _
      | refine LeO.ite ?_ ?_
      | refine LeO.bind ?_ (fun _ => ?_)
    · intro y0 y1 y2 y3
      unfold erewhilelaw33_CaltokOne.l0
      repeat' first
      | (with_reducible exact ih0 _ _ _ _)
      | (with_reducible exact ih1 _ _ _)
      | (with_reducible exact ih2 _ _ _ _)
      | (with_reducible exact caltok_Lex.mono _ _)
      | (with_reducible exact caltok_Text.mono _ _)
      | (with_reducible exact erewhilelaw33_awake.mono _)
      | (with_reducible exact LeO.refl _)
      | (with_reducible exact LeO.none _)
      | (with_reducible refine LeO.ite ?_ ?_)
      | (with_reducible refine LeO.bind ?_ (fun _ => ?_))
      | exact ih0 _ _ _ _
      | exact ih1 _ _ _
      | exact ih2 _ _ _ _
      | exact caltok_Lex.mono _ _
      | exact caltok_Text.mono _ _
      | exact erewhilelaw33_awake.mono _
      | exact LeO.none _
      | refine LeO.ite ?_ ?_
      | refine LeO.bind ?_ (fun _ => ?_)
theorem erewhilelaw33_CaltokOne.mono : ∀ a0 a1 a2 k, LeO (erewhilelaw33_CaltokOne.f k a0 a1 a2) (erewhilelaw33_CaltokOne.f (k + 1) a0 a1 a2) := by
  intro a0 a1 a2 k
  obtain ⟨ih0, ih1, ih2⟩ := erewhilelaw33_CaltokOne.mono_l k
  unfold erewhilelaw33_CaltokOne.f
  repeat' first
      | (with_reducible exact ih0 _ _ _ _)
      | (with_reducible exact ih1 _ _ _)
      | (with_reducible exact ih2 _ _ _ _)
      | (with_reducible exact caltok_Lex.mono _ _)
      | (with_reducible exact caltok_Text.mono _ _)
      | (with_reducible exact erewhilelaw33_awake.mono _)
      | (with_reducible exact LeO.refl _)
      | (with_reducible exact LeO.none _)
      | (with_reducible refine LeO.ite ?_ ?_)
      | (with_reducible refine LeO.bind ?_ (fun _ => ?_))
      | exact ih0 _ _ _ _
      | exact ih1 _ _ _
      | exact ih2 _ _ _ _
      | exact caltok_Lex.mono _ _
      | exact caltok_Text.mono _ _
      | exact erewhilelaw33_awake.mono _
      | exact LeO.none _
      | refine LeO.ite ?_ ?_
      | refine LeO.bind ?_ (fun _ => ?_)
set_option maxHeartbeats 8000000 in
set_option maxRecDepth 100000 in
theorem erewhilelaw33_CaltokOne.calls (k : Nat) (a0 : Int) (A1 : Option Addr) (c1 : Nat) (l1 : List Int) (a2 : Int) (r : Bool) (w : World) (hr1 : Kd.C (Kd.int .u8) w A1 l1.length l1) (hc1 : l1.length ≤ c1) (hU : Units w) (hT : Tab w) (h : erewhilelaw33_CaltokOne.f k a0 l1 a2 = some r) :
    Calls Tryd.prog 8 #[.int .u32 a0, .slice A1 l1.length c1, .int .u8 a2] w fun e w' => e = .returned (.bool r) ∧ Below w.heap.size w w' := by
  have HR1 := Aside0.mk hr1
  have HC1 := Aside0.mk hc1
  clear hr1 hc1
  have HB := Aside0.mk (Below.refl w.heap.size w)
  have HT := Aside0.mk hT
  clear hT
  have HU := Aside0.mk hU
  clear hU
  have H : ((erewhilelaw33_awake.f k).bind fun t251 => (if t251 = true then (if (l1.length : Int) > 40 then (some true) else ((caltok_Text.f k (wrap64 (Int.tmod a0 1073741824))).bind fun t252 => ((caltok_Lex.f k t252).bind fun bt253 => (if bt253.2.2 = 0 then (if (bt253.1.length : Int) = 2 then (if 0 < (bt253.1.length : Int) then (if ((rd_T33 bt253.1 0).f0) = 2 then (if ((rd_T33 bt253.1 0).f2) = (wrap64 (Int.tmod a0 1073741824)) then (if ((rd_T33 bt253.1 0).f1).toList = t252.toList then (if 1 < (bt253.1.length : Int) then (erewhilelaw33_CaltokOne.j0 k l1 a2 t252 (((rd_T33 bt253.1 1).f3) != (t252.size : Int))) else (none)) else (erewhilelaw33_CaltokOne.j0 k l1 a2 t252 true)) else (erewhilelaw33_CaltokOne.j0 k l1 a2 t252 true)) else (erewhilelaw33_CaltokOne.j0 k l1 a2 t252 true)) else (none)) else (erewhilelaw33_CaltokOne.j0 k l1 a2 t252 true)) else (erewhilelaw33_CaltokOne.j0 k l1 a2 t252 true))))) else (some false))) = some r := h
  clear h
  replace H := Option.bind_eq_some_iff.mp H
  obtain ⟨t251, A40, H⟩ := H
  replace H : (if t251 = true then (if (l1.length : Int) > 40 then (some true) else ((caltok_Text.f k (wrap64 (Int.tmod a0 1073741824))).bind fun t252 => ((caltok_Lex.f k t252).bind fun bt253 => (if bt253.2.2 = 0 then (if (bt253.1.length : Int) = 2 then (if 0 < (bt253.1.length : Int) then (if ((rd_T33 bt253.1 0).f0) = 2 then (if ((rd_T33 bt253.1 0).f2) = (wrap64 (Int.tmod a0 1073741824)) then (if ((rd_T33 bt253.1 0).f1).toList = t252.toList then (if 1 < (bt253.1.length : Int) then (erewhilelaw33_CaltokOne.j0 k l1 a2 t252 (((rd_T33 bt253.1 1).f3) != (t252.size : Int))) else (none)) else (erewhilelaw33_CaltokOne.j0 k l1 a2 t252 true)) else (erewhilelaw33_CaltokOne.j0 k l1 a2 t252 true)) else (erewhilelaw33_CaltokOne.j0 k l1 a2 t252 true)) else (none)) else (erewhilelaw33_CaltokOne.j0 k l1 a2 t252 true)) else (erewhilelaw33_CaltokOne.j0 k l1 a2 t252 true))))) else (some false)) = some r := H
  have A4 := Aside0.mk A40
  clear A40
  by_cases c5 : t251 = true
  · subst c5
    have H1 : (if (l1.length : Int) > 40 then (some true) else ((caltok_Text.f k (wrap64 (Int.tmod a0 1073741824))).bind fun t252 => ((caltok_Lex.f k t252).bind fun bt253 => (if bt253.2.2 = 0 then (if (bt253.1.length : Int) = 2 then (if 0 < (bt253.1.length : Int) then (if ((rd_T33 bt253.1 0).f0) = 2 then (if ((rd_T33 bt253.1 0).f2) = (wrap64 (Int.tmod a0 1073741824)) then (if ((rd_T33 bt253.1 0).f1).toList = t252.toList then (if 1 < (bt253.1.length : Int) then (erewhilelaw33_CaltokOne.j0 k l1 a2 t252 (((rd_T33 bt253.1 1).f3) != (t252.size : Int))) else (none)) else (erewhilelaw33_CaltokOne.j0 k l1 a2 t252 true)) else (erewhilelaw33_CaltokOne.j0 k l1 a2 t252 true)) else (erewhilelaw33_CaltokOne.j0 k l1 a2 t252 true)) else (none)) else (erewhilelaw33_CaltokOne.j0 k l1 a2 t252 true)) else (erewhilelaw33_CaltokOne.j0 k l1 a2 t252 true))))) = some r := by rw [if_pos rfl] at H; exact H
    clear H
    have H := H1
    clear H1
    by_cases c6 : (l1.length : Int) > 40
    · rw [if_pos c6] at H
      have c6b0 : decide (40 < (l1.length : Int)) = true := decide_eq_true c6
      have c6b1 : decide (40 < l1.length) = true := decide_eq_true (by omega)
      clear c6
      obtain rfl := Option.some.inj H
      go_enter Tryd.func8, Tryd.ntmps8
      go_wp2_with (first | ((with_reducible refine gate_callee (f := 9) rfl ?_); refine goesL_ (some 20) rfl rfl Tryd.func9 (by kernel_rfl) rfl #[] rfl (by (try simp only [List.map_toArray, List.map_cons, List.map_nil]); first | done | rfl | (simp only [List.length_drop, List.length_take]; rfl)) ?_; (with_reducible refine (erewhilelaw33_awake.calls k  true _ ?sideU A4.out).mono ?_); (case sideU => exact Units.below HU.out (by repeat (first | (with_reducible first | exact HB.out | apply below_alloc | apply pw_below_drewN | apply below_drew1) | exact HB.out))); rintro e w7 ⟨rfl, hb⟩; refine ⟨_, rfl, ?_⟩; have n0_ := Aside0.mk (below_step (by repeat (first | (with_reducible first | exact HB.out | apply below_alloc | apply pw_below_drewN | apply below_drew1) | exact HB.out)) hb); clear HB; have HB := n0_; clear n0_; (try clear hb); (try clear hb2); (try clear hk); (try clear hi)))
      go_ret
      exact ⟨by first | rfl | (simp [errW_none, errW_some] <;> rfl) | (simp [*, errW_none, errW_some] <;> rfl), by repeat (first | (with_reducible first | exact HB.out | apply below_alloc | apply pw_below_drewN | apply below_drew1) | exact HB.out)⟩
    · rw [if_neg c6] at H
      have c6b0 : decide (40 < (l1.length : Int)) = false := decide_eq_false c6
      have c6b1 : decide (40 < l1.length) = false := decide_eq_false (by omega)
      clear c6
      replace H := Option.bind_eq_some_iff.mp H
      obtain ⟨t252, A80, H⟩ := H
      replace H : ((caltok_Lex.f k t252).bind fun bt253 => (if bt253.2.2 = 0 then (if (bt253.1.length : Int) = 2 then (if 0 < (bt253.1.length : Int) then (if ((rd_T33 bt253.1 0).f0) = 2 then (if ((rd_T33 bt253.1 0).f2) = (wrap64 (Int.tmod a0 1073741824)) then (if ((rd_T33 bt253.1 0).f1).toList = t252.toList then (if 1 < (bt253.1.length : Int) then (erewhilelaw33_CaltokOne.j0 k l1 a2 t252 (((rd_T33 bt253.1 1).f3) != (t252.size : Int))) else (none)) else (erewhilelaw33_CaltokOne.j0 k l1 a2 t252 true)) else (erewhilelaw33_CaltokOne.j0 k l1 a2 t252 true)) else (erewhilelaw33_CaltokOne.j0 k l1 a2 t252 true)) else (none)) else (erewhilelaw33_CaltokOne.j0 k l1 a2 t252 true)) else (erewhilelaw33_CaltokOne.j0 k l1 a2 t252 true))) = some r := H
      have A8 := Aside0.mk A80
      clear A80
      replace H := Option.bind_eq_some_iff.mp H
      obtain ⟨⟨t253, t254, t255⟩, A90, H⟩ := H
      replace H : (if t255 = 0 then (if (t253.length : Int) = 2 then (if 0 < (t253.length : Int) then (if ((rd_T33 t253 0).f0) = 2 then (if ((rd_T33 t253 0).f2) = (wrap64 (Int.tmod a0 1073741824)) then (if ((rd_T33 t253 0).f1).toList = t252.toList then (if 1 < (t253.length : Int) then (erewhilelaw33_CaltokOne.j0 k l1 a2 t252 (((rd_T33 t253 1).f3) != (t252.size : Int))) else (none)) else (erewhilelaw33_CaltokOne.j0 k l1 a2 t252 true)) else (erewhilelaw33_CaltokOne.j0 k l1 a2 t252 true)) else (erewhilelaw33_CaltokOne.j0 k l1 a2 t252 true)) else (none)) else (erewhilelaw33_CaltokOne.j0 k l1 a2 t252 true)) else (erewhilelaw33_CaltokOne.j0 k l1 a2 t252 true)) = some r := H
      have A9 := Aside0.mk A90
      clear A90
      have HC10 := Aside0.mk H
      clear H
      go_enter Tryd.func8, Tryd.ntmps8
      go_upto_region 7 with (first | ((with_reducible refine gate_callee (f := 9) rfl ?_); refine goesL_ (some 20) rfl rfl Tryd.func9 (by kernel_rfl) rfl #[] rfl (by (try simp only [List.map_toArray, List.map_cons, List.map_nil]); first | done | rfl | (simp only [List.length_drop, List.length_take]; rfl)) ?_; (with_reducible refine (erewhilelaw33_awake.calls k  true _ ?sideU A4.out).mono ?_); (case sideU => exact Units.below HU.out (by repeat (first | (with_reducible first | exact HB.out | apply below_alloc | apply pw_below_drewN | apply below_drew1) | exact HB.out))); rintro e w11 ⟨rfl, hb⟩; refine ⟨_, rfl, ?_⟩; have n0_ := Aside0.mk (below_step (by repeat (first | (with_reducible first | exact HB.out | apply below_alloc | apply pw_below_drewN | apply below_drew1) | exact HB.out)) hb); clear HB; have HB := n0_; clear n0_; (try clear hb); (try clear hb2); (try clear hk); (try clear hi)) | ((with_reducible refine gate_callee (f := 13) rfl ?_); refine goesL_ (some 28) rfl rfl Tryd.func13 (by kernel_rfl) rfl #[.int .i64 (wrap64 (Int.tmod a0 1073741824))] rfl (by (try simp only [List.map_toArray, List.map_cons, List.map_nil]); first | done | rfl | (simp only [List.length_drop, List.length_take]; rfl)) ?_; (with_reducible refine (caltok_Text.calls k (wrap64 (Int.tmod a0 1073741824)) t252 _ ?sideT A8.out).mono ?_); (case sideT => exact Tab.below HT.out (by repeat (first | (with_reducible first | exact HB.out | apply below_alloc | apply pw_below_drewN | apply below_drew1) | exact HB.out))); rintro e w12 ⟨rfl, hb⟩; refine ⟨_, rfl, ?_⟩; have n0_ := Aside0.mk (below_step (by repeat (first | (with_reducible first | exact HB.out | apply below_alloc | apply pw_below_drewN | apply below_drew1) | exact HB.out)) hb); clear HB; have HB := n0_; clear n0_; (try clear hb); (try clear hb2); (try clear hk); (try clear hi)) | ((with_reducible refine gate_callee (f := 10) rfl ?_); refine goesL_ (some 31) rfl rfl Tryd.func10 (by kernel_rfl) rfl #[.string t252] rfl (by (try simp only [List.map_toArray, List.map_cons, List.map_nil]); first | done | rfl | (simp only [List.length_drop, List.length_take]; rfl)) ?_; (with_reducible refine (caltok_Lex.calls k t252 t253 t254 t255 _ ?sideU A9.out).mono ?_); (case sideU => exact Units.below HU.out (by repeat (first | (with_reducible first | exact HB.out | apply below_alloc | apply pw_below_drewN | apply below_drew1) | exact HB.out))); rintro e w13 ⟨v256, rfl, ho0, hb⟩; refine ⟨_, rfl, ?_⟩; have n0_ := Aside0.mk (Kd.R_lower ho0 (below_size (by repeat (first | (with_reducible first | exact HB.out | apply below_alloc | apply pw_below_drewN | apply below_drew1) | exact HB.out)))); have n1_ := Aside0.mk (below_step (by repeat (first | (with_reducible first | exact HB.out | apply below_alloc | apply pw_below_drewN | apply below_drew1) | exact HB.out)) hb); clear HB; have HO257 := n0_; have HB := n1_; clear n0_ n1_; (try clear hb); (try clear hb2); (try clear hk); (try clear hi); (try clear ho0)))
      (try simp only [Act.put, List.setIfInBounds_toArray, List.set_cons_zero, List.set_cons_succ])
      go_cut [75] (fun v75 wc => ∃ (kq : Nat) (x75_9 : Bool), v75 = .bool x75_9 ∧ Aside0 (erewhilelaw33_CaltokOne.j0 kq l1 a2 t252 x75_9 = some r) ∧ Aside0 (kq ≤ k) ∧ Aside0 (Below w.heap.size w wc))
      case first =>
        have H := HC10.out
        clear HC10
        by_cases c14 : t255 = 0
        · rw [if_pos c14] at H
          have c14b0 : (t255 == 0) = true := beq_iff_eq.mpr c14
          have c14b1 : (t255 != 0) = false := bne_eq_false_iff_eq.mpr c14
          clear c14
          (first | rw [c14b0] | (simp only [i64_w, i32_w]; rw [c14b0]) | skip)
          by_cases c15 : (t253.length : Int) = 2
          · rw [if_pos c15] at H
            have c15b0 : ((t253.length : Int) == 2) = true := beq_iff_eq.mpr c15
            have c15b1 : ((t253.length : Int) != 2) = false := bne_eq_false_iff_eq.mpr c15
            clear c15
            by_cases c16 : 0 < (t253.length : Int)
            · rw [if_pos c16] at H
              have c16b0 : decide (0 < (t253.length : Int)) = true := decide_eq_true c16
              have c16b1 : decide (0 < t253.length) = true := decide_eq_true (by omega)
              clear c16
              by_cases c17 : ((rd_T33 t253 0).f0) = 2
              · rw [if_pos c17] at H
                have c17b0 : (((rd_T33 t253 0).f0) == 2) = true := beq_iff_eq.mpr c17
                have c17b1 : (((rd_T33 t253 0).f0) != 2) = false := bne_eq_false_iff_eq.mpr c17
                clear c17
                by_cases c18 : ((rd_T33 t253 0).f2) = (wrap64 (Int.tmod a0 1073741824))
                · rw [if_pos c18] at H
                  have c18b0 : (((rd_T33 t253 0).f2) == (wrap64 (Int.tmod a0 1073741824))) = true := beq_iff_eq.mpr c18
                  have c18b1 : (((rd_T33 t253 0).f2) != (wrap64 (Int.tmod a0 1073741824))) = false := bne_eq_false_iff_eq.mpr c18
                  clear c18
                  by_cases c19 : ((rd_T33 t253 0).f1).toList = t252.toList
                  · rw [if_pos c19] at H
                    have c19b0 : (((rd_T33 t253 0).f1).toList == t252.toList) = true := beq_iff_eq.mpr c19
                    have c19b1 : (((rd_T33 t253 0).f1).toList != t252.toList) = false := bne_eq_false_iff_eq.mpr c19
                    clear c19
                    by_cases c20 : 1 < (t253.length : Int)
                    · rw [if_pos c20] at H
                      have c20b0 : decide (1 < (t253.length : Int)) = true := decide_eq_true c20
                      have c20b1 : decide (1 < t253.length) = true := decide_eq_true (by omega)
                      clear c20
                      have H' := Aside0.mk H
                      clear H
                      obtain ⟨Ao21, co21, eo21⟩ := Kd.R_slice HO257.out
                      subst eo21
                      have p258 : 0 ≤ (0 : Int) := (by omega)
                      have q258 : 0 < (t253.length : Int) := of_decide_eq_true (by first | (with_reducible assumption) | assumption)
                      obtain ⟨ad258, e258, hx258_0, hx258_1, hx258_2, hx258_3⟩ := at_T33 (Kd.R_reads' HO257.out).2.2 0 p258 q258
                      cases e258
                      have qi258 : (0 < t253.length) = True := eq_true (by omega)
                      (try rw [show ((0 : Int)).toNat = 0 from rfl] at hx258_0)
                      (try rw [show 0 * 4 = 0 from rfl] at hx258_0)
                      (try rw [Addr.add_zero'] at hx258_0)
                      (try rw [show ((0 : Int)).toNat = 0 from rfl] at hx258_1)
                      (try rw [show 0 * 4 = 0 from rfl] at hx258_1)
                      (try rw [Addr.add_zero'] at hx258_1)
                      (try rw [show ((0 : Int)).toNat = 0 from rfl] at hx258_2)
                      (try rw [show 0 * 4 = 0 from rfl] at hx258_2)
                      (try rw [Addr.add_zero'] at hx258_2)
                      (try rw [show ((0 : Int)).toNat = 0 from rfl] at hx258_3)
                      (try rw [show 0 * 4 = 0 from rfl] at hx258_3)
                      (try rw [Addr.add_zero'] at hx258_3)
                      replace p258 := eq_true p258
                      replace q258 := eq_true q258
                      have p259 : 0 ≤ (0 : Int) := (by omega)
                      have q259 : 0 < (t253.length : Int) := of_decide_eq_true (by first | (with_reducible assumption) | assumption)
                      obtain ⟨ad259, e259, hx259_0, hx259_1, hx259_2, hx259_3⟩ := at_T33 (Kd.R_reads' HO257.out).2.2 0 p259 q259
                      obtain rfl : ad258 = ad259 := (by injection e259)
                      have qi259 : (0 < t253.length) = True := eq_true (by omega)
                      (try rw [show ((0 : Int)).toNat = 0 from rfl] at hx259_0)
                      (try rw [show 0 * 4 = 0 from rfl] at hx259_0)
                      (try rw [Addr.add_zero'] at hx259_0)
                      (try rw [show ((0 : Int)).toNat = 0 from rfl] at hx259_1)
                      (try rw [show 0 * 4 = 0 from rfl] at hx259_1)
                      (try rw [Addr.add_zero'] at hx259_1)
                      (try rw [show ((0 : Int)).toNat = 0 from rfl] at hx259_2)
                      (try rw [show 0 * 4 = 0 from rfl] at hx259_2)
                      (try rw [Addr.add_zero'] at hx259_2)
                      (try rw [show ((0 : Int)).toNat = 0 from rfl] at hx259_3)
                      (try rw [show 0 * 4 = 0 from rfl] at hx259_3)
                      (try rw [Addr.add_zero'] at hx259_3)
                      replace p259 := eq_true p259
                      replace q259 := eq_true q259
                      have p260 : 0 ≤ (0 : Int) := (by omega)
                      have q260 : 0 < (t253.length : Int) := of_decide_eq_true (by first | (with_reducible assumption) | assumption)
                      obtain ⟨ad260, e260, hx260_0, hx260_1, hx260_2, hx260_3⟩ := at_T33 (Kd.R_reads' HO257.out).2.2 0 p260 q260
                      obtain rfl : ad258 = ad260 := (by injection e260)
                      have qi260 : (0 < t253.length) = True := eq_true (by omega)
                      (try rw [show ((0 : Int)).toNat = 0 from rfl] at hx260_0)
                      (try rw [show 0 * 4 = 0 from rfl] at hx260_0)
                      (try rw [Addr.add_zero'] at hx260_0)
                      (try rw [show ((0 : Int)).toNat = 0 from rfl] at hx260_1)
                      (try rw [show 0 * 4 = 0 from rfl] at hx260_1)
                      (try rw [Addr.add_zero'] at hx260_1)
                      (try rw [show ((0 : Int)).toNat = 0 from rfl] at hx260_2)
                      (try rw [show 0 * 4 = 0 from rfl] at hx260_2)
                      (try rw [Addr.add_zero'] at hx260_2)
                      (try rw [show ((0 : Int)).toNat = 0 from rfl] at hx260_3)
                      (try rw [show 0 * 4 = 0 from rfl] at hx260_3)
                      (try rw [Addr.add_zero'] at hx260_3)
                      replace p260 := eq_true p260
                      replace q260 := eq_true q260
                      have p261 : 0 ≤ (1 : Int) := (by omega)
                      have q261 : 1 < (t253.length : Int) := of_decide_eq_true (by first | (with_reducible assumption) | assumption)
                      obtain ⟨ad261, e261, hx261_0, hx261_1, hx261_2, hx261_3⟩ := at_T33 (Kd.R_reads' HO257.out).2.2 1 p261 q261
                      obtain rfl : ad258 = ad261 := (by injection e261)
                      (try simp only [show (1 : Int).toNat = 1 from rfl, Nat.reduceMul, Nat.reduceEqDiff, Go.Addr.add, ↓reduceIte] at hx261_0)
                      (try simp only [show (1 : Int).toNat = 1 from rfl, Nat.reduceMul, Nat.reduceEqDiff, Go.Addr.add, ↓reduceIte] at hx261_1)
                      (try simp only [show (1 : Int).toNat = 1 from rfl, Nat.reduceMul, Nat.reduceEqDiff, Go.Addr.add, ↓reduceIte] at hx261_2)
                      (try simp only [show (1 : Int).toNat = 1 from rfl, Nat.reduceMul, Nat.reduceEqDiff, Go.Addr.add, ↓reduceIte] at hx261_3)
                      have qi261 : (1 < t253.length) = True := eq_true (by omega)
                      (try rw [show ((1 : Int)).toNat = 1 from rfl] at hx261_0)
                      (try rw [show 1 * 4 = 4 from rfl] at hx261_0)
                      (try rw [show ((1 : Int)).toNat = 1 from rfl] at hx261_1)
                      (try rw [show 1 * 4 = 4 from rfl] at hx261_1)
                      (try rw [show ((1 : Int)).toNat = 1 from rfl] at hx261_2)
                      (try rw [show 1 * 4 = 4 from rfl] at hx261_2)
                      (try rw [show ((1 : Int)).toNat = 1 from rfl] at hx261_3)
                      (try rw [show 1 * 4 = 4 from rfl] at hx261_3)
                      replace p261 := eq_true p261
                      replace q261 := eq_true q261
                      go_wp2
                      go_meet
                      case rel => exact ⟨_, ((((rd_T33 t253 1).f3) != (t252.size : Int))), (by first | rfl | (simp; done) | (simp [*]; done)), H', ⟨by first | omega | exact Nat.le_refl _⟩, ⟨by repeat (first | (with_reducible first | exact HB.out | apply below_alloc | apply pw_below_drewN | apply below_drew1) | exact HB.out)⟩⟩
                    · rw [if_neg c20] at H
                      exact absurd H (by simp)
                  · rw [if_neg c19] at H
                    have c19b0 : (((rd_T33 t253 0).f1).toList == t252.toList) = false := beq_eq_false_iff_ne.mpr c19
                    have c19b1 : (((rd_T33 t253 0).f1).toList != t252.toList) = true := bne_iff_ne.mpr c19
                    have H' := Aside0.mk H
                    clear H
                    obtain ⟨Ao22, co22, eo22⟩ := Kd.R_slice HO257.out
                    subst eo22
                    have p258 : 0 ≤ (0 : Int) := (by omega)
                    have q258 : 0 < (t253.length : Int) := of_decide_eq_true (by first | (with_reducible assumption) | assumption)
                    obtain ⟨ad258, e258, hx258_0, hx258_1, hx258_2, hx258_3⟩ := at_T33 (Kd.R_reads' HO257.out).2.2 0 p258 q258
                    cases e258
                    have qi258 : (0 < t253.length) = True := eq_true (by omega)
                    (try rw [show ((0 : Int)).toNat = 0 from rfl] at hx258_0)
                    (try rw [show 0 * 4 = 0 from rfl] at hx258_0)
                    (try rw [Addr.add_zero'] at hx258_0)
                    (try rw [show ((0 : Int)).toNat = 0 from rfl] at hx258_1)
                    (try rw [show 0 * 4 = 0 from rfl] at hx258_1)
                    (try rw [Addr.add_zero'] at hx258_1)
                    (try rw [show ((0 : Int)).toNat = 0 from rfl] at hx258_2)
                    (try rw [show 0 * 4 = 0 from rfl] at hx258_2)
                    (try rw [Addr.add_zero'] at hx258_2)
                    (try rw [show ((0 : Int)).toNat = 0 from rfl] at hx258_3)
                    (try rw [show 0 * 4 = 0 from rfl] at hx258_3)
                    (try rw [Addr.add_zero'] at hx258_3)
                    replace p258 := eq_true p258
                    replace q258 := eq_true q258
                    have p259 : 0 ≤ (0 : Int) := (by omega)
                    have q259 : 0 < (t253.length : Int) := of_decide_eq_true (by first | (with_reducible assumption) | assumption)
                    obtain ⟨ad259, e259, hx259_0, hx259_1, hx259_2, hx259_3⟩ := at_T33 (Kd.R_reads' HO257.out).2.2 0 p259 q259
                    obtain rfl : ad258 = ad259 := (by injection e259)
                    have qi259 : (0 < t253.length) = True := eq_true (by omega)
                    (try rw [show ((0 : Int)).toNat = 0 from rfl] at hx259_0)
                    (try rw [show 0 * 4 = 0 from rfl] at hx259_0)
                    (try rw [Addr.add_zero'] at hx259_0)
                    (try rw [show ((0 : Int)).toNat = 0 from rfl] at hx259_1)
                    (try rw [show 0 * 4 = 0 from rfl] at hx259_1)
                    (try rw [Addr.add_zero'] at hx259_1)
                    (try rw [show ((0 : Int)).toNat = 0 from rfl] at hx259_2)
                    (try rw [show 0 * 4 = 0 from rfl] at hx259_2)
                    (try rw [Addr.add_zero'] at hx259_2)
                    (try rw [show ((0 : Int)).toNat = 0 from rfl] at hx259_3)
                    (try rw [show 0 * 4 = 0 from rfl] at hx259_3)
                    (try rw [Addr.add_zero'] at hx259_3)
                    replace p259 := eq_true p259
                    replace q259 := eq_true q259
                    have p260 : 0 ≤ (0 : Int) := (by omega)
                    have q260 : 0 < (t253.length : Int) := of_decide_eq_true (by first | (with_reducible assumption) | assumption)
                    obtain ⟨ad260, e260, hx260_0, hx260_1, hx260_2, hx260_3⟩ := at_T33 (Kd.R_reads' HO257.out).2.2 0 p260 q260
                    obtain rfl : ad258 = ad260 := (by injection e260)
                    have qi260 : (0 < t253.length) = True := eq_true (by omega)
                    (try rw [show ((0 : Int)).toNat = 0 from rfl] at hx260_0)
                    (try rw [show 0 * 4 = 0 from rfl] at hx260_0)
                    (try rw [Addr.add_zero'] at hx260_0)
                    (try rw [show ((0 : Int)).toNat = 0 from rfl] at hx260_1)
                    (try rw [show 0 * 4 = 0 from rfl] at hx260_1)
                    (try rw [Addr.add_zero'] at hx260_1)
                    (try rw [show ((0 : Int)).toNat = 0 from rfl] at hx260_2)
                    (try rw [show 0 * 4 = 0 from rfl] at hx260_2)
                    (try rw [Addr.add_zero'] at hx260_2)
                    (try rw [show ((0 : Int)).toNat = 0 from rfl] at hx260_3)
                    (try rw [show 0 * 4 = 0 from rfl] at hx260_3)
                    (try rw [Addr.add_zero'] at hx260_3)
                    replace p260 := eq_true p260
                    replace q260 := eq_true q260
                    go_wp2
                    go_meet
                    case rel => exact ⟨_, (true), (by first | rfl | (simp; done) | (simp [*]; done)), H', ⟨by first | omega | exact Nat.le_refl _⟩, ⟨by repeat (first | (with_reducible first | exact HB.out | apply below_alloc | apply pw_below_drewN | apply below_drew1) | exact HB.out)⟩⟩
                · rw [if_neg c18] at H
                  have c18b0 : (((rd_T33 t253 0).f2) == (wrap64 (Int.tmod a0 1073741824))) = false := beq_eq_false_iff_ne.mpr c18
                  have c18b1 : (((rd_T33 t253 0).f2) != (wrap64 (Int.tmod a0 1073741824))) = true := bne_iff_ne.mpr c18
                  have H' := Aside0.mk H
                  clear H
                  obtain ⟨Ao23, co23, eo23⟩ := Kd.R_slice HO257.out
                  subst eo23
                  have p258 : 0 ≤ (0 : Int) := (by omega)
                  have q258 : 0 < (t253.length : Int) := of_decide_eq_true (by first | (with_reducible assumption) | assumption)
                  obtain ⟨ad258, e258, hx258_0, hx258_1, hx258_2, hx258_3⟩ := at_T33 (Kd.R_reads' HO257.out).2.2 0 p258 q258
                  cases e258
                  have qi258 : (0 < t253.length) = True := eq_true (by omega)
                  (try rw [show ((0 : Int)).toNat = 0 from rfl] at hx258_0)
                  (try rw [show 0 * 4 = 0 from rfl] at hx258_0)
                  (try rw [Addr.add_zero'] at hx258_0)
                  (try rw [show ((0 : Int)).toNat = 0 from rfl] at hx258_1)
                  (try rw [show 0 * 4 = 0 from rfl] at hx258_1)
                  (try rw [Addr.add_zero'] at hx258_1)
                  (try rw [show ((0 : Int)).toNat = 0 from rfl] at hx258_2)
                  (try rw [show 0 * 4 = 0 from rfl] at hx258_2)
                  (try rw [Addr.add_zero'] at hx258_2)
                  (try rw [show ((0 : Int)).toNat = 0 from rfl] at hx258_3)
                  (try rw [show 0 * 4 = 0 from rfl] at hx258_3)
                  (try rw [Addr.add_zero'] at hx258_3)
                  replace p258 := eq_true p258
                  replace q258 := eq_true q258
                  have p259 : 0 ≤ (0 : Int) := (by omega)
                  have q259 : 0 < (t253.length : Int) := of_decide_eq_true (by first | (with_reducible assumption) | assumption)
                  obtain ⟨ad259, e259, hx259_0, hx259_1, hx259_2, hx259_3⟩ := at_T33 (Kd.R_reads' HO257.out).2.2 0 p259 q259
                  obtain rfl : ad258 = ad259 := (by injection e259)
                  have qi259 : (0 < t253.length) = True := eq_true (by omega)
                  (try rw [show ((0 : Int)).toNat = 0 from rfl] at hx259_0)
                  (try rw [show 0 * 4 = 0 from rfl] at hx259_0)
                  (try rw [Addr.add_zero'] at hx259_0)
                  (try rw [show ((0 : Int)).toNat = 0 from rfl] at hx259_1)
                  (try rw [show 0 * 4 = 0 from rfl] at hx259_1)
                  (try rw [Addr.add_zero'] at hx259_1)
                  (try rw [show ((0 : Int)).toNat = 0 from rfl] at hx259_2)
                  (try rw [show 0 * 4 = 0 from rfl] at hx259_2)
                  (try rw [Addr.add_zero'] at hx259_2)
                  (try rw [show ((0 : Int)).toNat = 0 from rfl] at hx259_3)
                  (try rw [show 0 * 4 = 0 from rfl] at hx259_3)
                  (try rw [Addr.add_zero'] at hx259_3)
                  replace p259 := eq_true p259
                  replace q259 := eq_true q259
                  go_wp2
                  go_meet
                  case rel => exact ⟨_, (true), (by first | rfl | (simp; done) | (simp [*]; done)), H', ⟨by first | omega | exact Nat.le_refl _⟩, ⟨by repeat (first | (with_reducible first | exact HB.out | apply below_alloc | apply pw_below_drewN | apply below_drew1) | exact HB.out)⟩⟩
              · rw [if_neg c17] at H
                have c17b0 : (((rd_T33 t253 0).f0) == 2) = false := beq_eq_false_iff_ne.mpr c17
                have c17b1 : (((rd_T33 t253 0).f0) != 2) = true := bne_iff_ne.mpr c17
                have H' := Aside0.mk H
                clear H
                obtain ⟨Ao24, co24, eo24⟩ := Kd.R_slice HO257.out
                subst eo24
                have p258 : 0 ≤ (0 : Int) := (by omega)
                have q258 : 0 < (t253.length : Int) := of_decide_eq_true (by first | (with_reducible assumption) | assumption)
                obtain ⟨ad258, e258, hx258_0, hx258_1, hx258_2, hx258_3⟩ := at_T33 (Kd.R_reads' HO257.out).2.2 0 p258 q258
                cases e258
                have qi258 : (0 < t253.length) = True := eq_true (by omega)
                (try rw [show ((0 : Int)).toNat = 0 from rfl] at hx258_0)
                (try rw [show 0 * 4 = 0 from rfl] at hx258_0)
                (try rw [Addr.add_zero'] at hx258_0)
                (try rw [show ((0 : Int)).toNat = 0 from rfl] at hx258_1)
                (try rw [show 0 * 4 = 0 from rfl] at hx258_1)
                (try rw [Addr.add_zero'] at hx258_1)
                (try rw [show ((0 : Int)).toNat = 0 from rfl] at hx258_2)
                (try rw [show 0 * 4 = 0 from rfl] at hx258_2)
                (try rw [Addr.add_zero'] at hx258_2)
                (try rw [show ((0 : Int)).toNat = 0 from rfl] at hx258_3)
                (try rw [show 0 * 4 = 0 from rfl] at hx258_3)
                (try rw [Addr.add_zero'] at hx258_3)
                replace p258 := eq_true p258
                replace q258 := eq_true q258
                go_wp2
                go_meet
                case rel => exact ⟨_, (true), (by first | rfl | (simp; done) | (simp [*]; done)), H', ⟨by first | omega | exact Nat.le_refl _⟩, ⟨by repeat (first | (with_reducible first | exact HB.out | apply below_alloc | apply pw_below_drewN | apply below_drew1) | exact HB.out)⟩⟩
            · rw [if_neg c16] at H
              exact absurd H (by simp)
          · rw [if_neg c15] at H
            have c15b0 : ((t253.length : Int) == 2) = false := beq_eq_false_iff_ne.mpr c15
            have c15b1 : ((t253.length : Int) != 2) = true := bne_iff_ne.mpr c15
            have H' := Aside0.mk H
            clear H
            obtain ⟨Ao25, co25, eo25⟩ := Kd.R_slice HO257.out
            subst eo25
            go_wp2
            go_meet
            case rel => exact ⟨_, (true), (by first | rfl | (simp; done) | (simp [*]; done)), H', ⟨by first | omega | exact Nat.le_refl _⟩, ⟨by repeat (first | (with_reducible first | exact HB.out | apply below_alloc | apply pw_below_drewN | apply below_drew1) | exact HB.out)⟩⟩
        · rw [if_neg c14] at H
          have c14b0 : (t255 == 0) = false := beq_eq_false_iff_ne.mpr c14
          have c14b1 : (t255 != 0) = true := bne_iff_ne.mpr c14
          (first | rw [c14b0] | (simp only [i64_w, i32_w]; rw [c14b0]) | skip)
          have H' := Aside0.mk H
          clear H
          go_wp2
          go_meet
          case rel => exact ⟨_, (true), (by first | rfl | (simp; done) | (simp [*]; done)), H', ⟨by first | omega | exact Nat.le_refl _⟩, ⟨by repeat (first | (with_reducible first | exact HB.out | apply below_alloc | apply pw_below_drewN | apply below_drew1) | exact HB.out)⟩⟩
      case rest =>
        clear HC10
        try clear c1
        try clear c2
        try clear p2
        try clear q2
        try clear hx2
        try clear qi2
        try clear c5
        try clear c6
        try clear c6b0
        try clear c6b1
        try clear p6
        try clear c8
        try clear c9
        try clear c10
        try clear c13
        try clear c14
        try clear c14b0
        try clear c14b1
        try clear c15
        try clear c15b0
        try clear c15b1
        try clear c16
        try clear c16b0
        try clear c16b1
        try clear c17
        try clear c17b0
        try clear c17b1
        try clear c18
        try clear c18b0
        try clear c18b1
        try clear c19
        try clear c19b0
        try clear c19b1
        try clear c20
        try clear c20b0
        try clear c20b1
        try clear p25
        try clear q25
        try clear hx25
        try clear qi25
        try clear hx258_0
        try clear hx258_1
        try clear hx258_2
        try clear hx258_3
        try clear hx259_0
        try clear hx259_1
        try clear hx259_2
        try clear hx259_3
        try clear hx260_0
        try clear hx260_1
        try clear hx260_2
        try clear hx260_3
        try clear hx261_0
        try clear hx261_1
        try clear hx261_2
        try clear hx261_3
        try clear p258
        try clear p259
        try clear p260
        try clear p261
        try clear q258
        try clear q259
        try clear q260
        try clear q261
        obtain ⟨kq, x75_9, rfl, HA, HJ9, HB⟩ := hcut
        cases kq with
        | zero => exact absurd HA.out (by simp [erewhilelaw33_CaltokOne.j0])
        | succ kj9 =>
          have H := HA.out
          clear HA
          simp only [erewhilelaw33_CaltokOne.j0] at H
          by_cases c26 : x75_9 = true
          · subst c26
            have H1 : (some false) = some r := by rw [if_pos rfl] at H; exact H
            clear H
            have H := H1
            clear H1
            obtain rfl := Option.some.inj H
            go_wp2
            go_ret
            exact ⟨by first | rfl | (simp [errW_none, errW_some] <;> rfl) | (simp [*, errW_none, errW_some] <;> rfl), by repeat (first | (with_reducible first | exact HB.out | apply below_alloc | apply pw_below_drewN | apply below_drew1) | exact HB.out)⟩
          · replace c26 := Bool.eq_false_iff.mpr c26
            subst c26
            have H1 : ((some (([(97 + (Int.tmod a2 26)) % 256] : List Int) : List Int)).bind fun y262 => (if 1 + t252.size ≤ 9223372036854775807 then (if ((⟨#[32]⟩ : ByteArray) ++ t252).size + (strOfNums y262).size ≤ 9223372036854775807 then ((caltok_Lex.f kj9 (((⟨#[32]⟩ : ByteArray) ++ t252) ++ (strOfNums y262))).bind fun bt265 => (if bt265.2.2 = 17 then (erewhilelaw33_CaltokOne.j1 kj9 l1 (strOfNums y262) (bt265.2.1 != 1)) else (erewhilelaw33_CaltokOne.j1 kj9 l1 (strOfNums y262) true))) else (none)) else (none))) = some r := by rw [if_neg (show ¬ (false = true) by decide)] at H; exact H
            clear H
            have H := H1
            clear H1
            obtain ⟨y262, hy262⟩ : ∃ y_ : List Int, y_ = (([(97 + (Int.tmod a2 26)) % 256] : List Int)) := ⟨_, rfl⟩
            replace H : (if 1 + t252.size ≤ 9223372036854775807 then (if ((⟨#[32]⟩ : ByteArray) ++ t252).size + (strOfNums y262).size ≤ 9223372036854775807 then ((caltok_Lex.f kj9 (((⟨#[32]⟩ : ByteArray) ++ t252) ++ (strOfNums y262))).bind fun bt265 => (if bt265.2.2 = 17 then (erewhilelaw33_CaltokOne.j1 kj9 l1 (strOfNums y262) (bt265.2.1 != 1)) else (erewhilelaw33_CaltokOne.j1 kj9 l1 (strOfNums y262) true))) else (none)) else (none)) = some r := by first | (rw [hy262]; with_reducible exact H) | (have H2_ := (Option.bind_some _ _).symm.trans H; rw [hy262]; with_reducible exact H2_) | (have H2_ := (Option.bind_some _ _).symm.trans H; with_reducible exact H2_) | with_reducible exact H | (rw [hy262]; exact H) | exact H
            have Ny262 := Aside0.mk hy262
            clear hy262
            by_cases c27 : 1 + t252.size ≤ 9223372036854775807
            · rw [if_pos c27] at H
              have c27b0 := eq_true c27
              have c27b1 : decide (1 + t252.size ≤ 9223372036854775807) = true := decide_eq_true c27
              try have c27b2 : (9223372036854775807 < 1 + t252.size) = False := eq_false (Nat.not_lt.2 c27)
              by_cases c28 : ((⟨#[32]⟩ : ByteArray) ++ t252).size + (strOfNums y262).size ≤ 9223372036854775807
              · rw [if_pos c28] at H
                have c28b0 := eq_true c28
                have c28b1 : decide (((⟨#[32]⟩ : ByteArray) ++ t252).size + (strOfNums y262).size ≤ 9223372036854775807) = true := decide_eq_true c28
                try have c28b2 : (9223372036854775807 < ((⟨#[32]⟩ : ByteArray) ++ t252).size + (strOfNums y262).size) = False := eq_false (Nat.not_lt.2 c28)
                replace H := Option.bind_eq_some_iff.mp H
                obtain ⟨⟨t265, t266, t267⟩, A290, H⟩ := H
                replace H : (if t267 = 17 then (erewhilelaw33_CaltokOne.j1 kj9 l1 (strOfNums y262) (t266 != 1)) else (erewhilelaw33_CaltokOne.j1 kj9 l1 (strOfNums y262) true)) = some r := H
                have A29 := Aside0.mk A290
                clear A290
                have HC30 := Aside0.mk H
                clear H
                go_upto_region 11 with (first | ((with_reducible refine gate_dst (N := 79) rfl ?_); (try (refine gate_guard (by rfl) ?_; dsimp only)); refine Kd.R_lit (Kd.int .u8) _ 5 ?hg (N := 79) ?hd (xs := ([(97 + (Int.tmod a2 26)) % 256] : List Int)) (inner := [.int .u8 ((97 + (Int.tmod a2 26)) % 256)]) (ok := fun _ => True) (okp := fun _ => True) ?hr ?hp (fun _ hk => hk) trivial (Below.refl _ _) (Nat.le_refl _) (by simp) ?_; (case hd => rfl); (case hg => rfl); (case hr => first | (go_simp; done) | (go_simp; rfl)); (case hp => exact (Reps.one (show Kd.M (Kd.int .u8) _ _ _ ((97 + (Int.tmod a2 26)) % 256) [.int .u8 ((97 + (Int.tmod a2 26)) % 256)] from rfl) (Reps.none _ _))); intro v263 w31 ho32 hb hg_ hnew_; clear hg_ hnew_; (first | rw [← Ny262.out] at ho32 | (simp only [Int.reduceToNat] at ho32; rw [← Ny262.out] at ho32)); have n0_ := Aside0.mk (Kd.R_lower ho32 (below_size (by repeat (first | (with_reducible first | exact HB.out | apply below_alloc | apply pw_below_drewN | apply below_drew1) | exact HB.out)))); have n1_ := Aside0.mk (below_step (by repeat (first | (with_reducible first | exact HB.out | apply below_alloc | apply pw_below_drewN | apply below_drew1) | exact HB.out)) hb); clear HB; have HO264 := n0_; have HB := n1_; clear n0_ n1_; clear hb ho32; have hcv33 := own_string (P := Tryd.prog) Tryd.underlying41 Tryd.underlying5 Tryd.underlying9 (Kd.own_of_R HO264.out)) | ((with_reducible refine gate_callee (f := 10) rfl ?_); refine goesL_ (some 86) rfl rfl Tryd.func10 (by kernel_rfl) rfl #[.string (((⟨#[32]⟩ : ByteArray) ++ t252) ++ (strOfNums y262))] rfl (by (try simp only [List.map_toArray, List.map_cons, List.map_nil]); first | done | rfl | (simp only [List.length_drop, List.length_take]; rfl)) ?_; (with_reducible refine (caltok_Lex.calls kj9 (((⟨#[32]⟩ : ByteArray) ++ t252) ++ (strOfNums y262)) t265 t266 t267 _ ?sideU A29.out).mono ?_); (case sideU => exact Units.below HU.out (by repeat (first | (with_reducible first | exact HB.out | apply below_alloc | apply pw_below_drewN | apply below_drew1) | exact HB.out))); rintro e w34 ⟨v268, rfl, ho0, hb⟩; refine ⟨_, rfl, ?_⟩; have n0_ := Aside0.mk (Kd.R_below (by (with_reducible repeat (first | apply Kd.R_alloc | apply Kd.R_drewN | apply Kd.R_drew)); exact HO264.out) hb); have n1_ := Aside0.mk (Kd.R_lower ho0 (below_size (by repeat (first | (with_reducible first | exact HB.out | apply below_alloc | apply pw_below_drewN | apply below_drew1) | exact HB.out)))); have n2_ := Aside0.mk (below_step (by repeat (first | (with_reducible first | exact HB.out | apply below_alloc | apply pw_below_drewN | apply below_drew1) | exact HB.out)) hb); clear HO264; clear HB; have HO264 := n0_; have HO269 := n1_; have HB := n2_; clear n0_ n1_ n2_; (try clear hb); (try clear hb2); (try clear hk); (try clear hi); (try clear ho0)))
                (try simp only [Act.put, List.setIfInBounds_toArray, List.set_cons_zero, List.set_cons_succ])
                go_cut [95] (fun v95 wc => ∃ (kq : Nat) (x95_29 : Bool), v95 = .bool x95_29 ∧ Aside0 (erewhilelaw33_CaltokOne.j1 kq l1 (strOfNums y262) x95_29 = some r) ∧ Aside0 (kq ≤ kj9) ∧ Aside0 (Below w.heap.size w wc))
                case first =>
                  have H := HC30.out
                  clear HC30
                  by_cases c35 : t267 = 17
                  · rw [if_pos c35] at H
                    have c35b0 : (t267 == 17) = true := beq_iff_eq.mpr c35
                    have c35b1 : (t267 != 17) = false := bne_eq_false_iff_eq.mpr c35
                    clear c35
                    (first | rw [c35b0] | (simp only [i64_w, i32_w]; rw [c35b0]) | skip)
                    have H' := Aside0.mk H
                    clear H
                    go_wp2
                    go_meet
                    case rel => exact ⟨_, ((t266 != 1)), (by first | rfl | (simp; done) | (simp [*]; done)), H', ⟨by have := HJ9.out; first | omega | exact Nat.le_refl _⟩, ⟨by repeat (first | (with_reducible first | exact HB.out | apply below_alloc | apply pw_below_drewN | apply below_drew1) | exact HB.out)⟩⟩
                  · rw [if_neg c35] at H
                    have c35b0 : (t267 == 17) = false := beq_eq_false_iff_ne.mpr c35
                    have c35b1 : (t267 != 17) = true := bne_iff_ne.mpr c35
                    (first | rw [c35b0] | (simp only [i64_w, i32_w]; rw [c35b0]) | skip)
                    have H' := Aside0.mk H
                    clear H
                    go_wp2
                    go_meet
                    case rel => exact ⟨_, (true), (by first | rfl | (simp; done) | (simp [*]; done)), H', ⟨by have := HJ9.out; first | omega | exact Nat.le_refl _⟩, ⟨by repeat (first | (with_reducible first | exact HB.out | apply below_alloc | apply pw_below_drewN | apply below_drew1) | exact HB.out)⟩⟩
                case rest =>
                  clear HC30
                  try clear c1
                  try clear c2
                  try clear p2
                  try clear q2
                  try clear hx2
                  try clear qi2
                  try clear c3
                  try clear hcv3
                  try clear c5
                  try clear c6
                  try clear c6b0
                  try clear c6b1
                  try clear p6
                  try clear c8
                  try clear c9
                  try clear c10
                  try clear c13
                  try clear c14
                  try clear c14b0
                  try clear c14b1
                  try clear c15
                  try clear c15b0
                  try clear c15b1
                  try clear c16
                  try clear c16b0
                  try clear c16b1
                  try clear c17
                  try clear c17b0
                  try clear c17b1
                  try clear c18
                  try clear c18b0
                  try clear c18b1
                  try clear c19
                  try clear c19b0
                  try clear c19b1
                  try clear c20
                  try clear c20b0
                  try clear c20b1
                  try clear p25
                  try clear q25
                  try clear hx25
                  try clear qi25
                  try clear c26
                  try clear p26
                  try clear q26
                  try clear hx26
                  try clear qi26
                  try clear c27
                  try clear c27b0
                  try clear c27b1
                  try clear c27b2
                  try clear c28
                  try clear c28b0
                  try clear c28b1
                  try clear c28b2
                  try clear hcv33
                  try clear c35
                  try clear c35b0
                  try clear c35b1
                  try clear hx258_0
                  try clear hx258_1
                  try clear hx258_2
                  try clear hx258_3
                  try clear hx259_0
                  try clear hx259_1
                  try clear hx259_2
                  try clear hx259_3
                  try clear hx260_0
                  try clear hx260_1
                  try clear hx260_2
                  try clear hx260_3
                  try clear hx261_0
                  try clear hx261_1
                  try clear hx261_2
                  try clear hx261_3
                  try clear p2
                  try clear p25
                  try clear p258
                  try clear p259
                  try clear p260
                  try clear p261
                  try clear p6
                  try clear q2
                  try clear q25
                  try clear q258
                  try clear q259
                  try clear q260
                  try clear q261
                  obtain ⟨kq, x95_29, rfl, HA, HJ29, HB⟩ := hcut
                  cases kq with
                  | zero => exact absurd HA.out (by simp [erewhilelaw33_CaltokOne.j1])
                  | succ kj29 =>
                    have H := HA.out
                    clear HA
                    simp only [erewhilelaw33_CaltokOne.j1] at H
                    by_cases c36 : x95_29 = true
                    · subst c36
                      have H1 : (some false) = some r := by rw [if_pos rfl] at H; exact H
                      clear H
                      have H := H1
                      clear H1
                      obtain rfl := Option.some.inj H
                      go_wp2
                      go_ret
                      exact ⟨by first | rfl | (simp [errW_none, errW_some] <;> rfl) | (simp [*, errW_none, errW_some] <;> rfl), by repeat (first | (with_reducible first | exact HB.out | apply below_alloc | apply pw_below_drewN | apply below_drew1) | exact HB.out)⟩
                    · replace c36 := Bool.eq_false_iff.mpr c36
                      subst c36
                      have H1 : (erewhilelaw33_CaltokOne.l0 kj29 l1 (strOfNums y262) (⟨#[]⟩ : ByteArray) 0) = some r := by rw [if_neg (show ¬ (false = true) by decide)] at H; exact H
                      clear H
                      have H := H1
                      clear H1
                      have H' := Aside0.mk H
                      clear H
                      go_wp2
                      go_loopg [15, 16] kj29 (fun kq v15 v16 w' => ∃ (x15_3 : ByteArray) (x16_3 : Int), v15 = .string x15_3 ∧ v16 = .int .i64 x16_3 ∧ Aside0 (erewhilelaw33_CaltokOne.l0 kq l1 (strOfNums y262) x15_3 x16_3 = some r) ∧ Aside0 (kq ≤ kj29) ∧ Aside0 (Below w.heap.size w w'))
                      case atStart => exact ⟨((⟨#[]⟩ : ByteArray)), (0), (by first | rfl | (simp; done) | (simp [*]; done)), (by first | rfl | (simp; done) | (simp [*]; done)), H', ⟨Nat.le_refl _⟩, ⟨by repeat (first | (with_reducible first | exact HB.out | apply below_alloc | apply pw_below_drewN | apply below_drew1) | exact HB.out)⟩⟩
                      case round =>
                        clear H'
                        try clear c1
                        try clear c2
                        try clear p2
                        try clear q2
                        try clear hx2
                        try clear qi2
                        try clear c3
                        try clear hcv3
                        try clear c5
                        try clear c6
                        try clear c6b0
                        try clear c6b1
                        try clear p6
                        try clear c8
                        try clear c9
                        try clear c10
                        try clear c13
                        try clear c14
                        try clear c14b0
                        try clear c14b1
                        try clear c15
                        try clear c15b0
                        try clear c15b1
                        try clear c16
                        try clear c16b0
                        try clear c16b1
                        try clear c17
                        try clear c17b0
                        try clear c17b1
                        try clear c18
                        try clear c18b0
                        try clear c18b1
                        try clear c19
                        try clear c19b0
                        try clear c19b1
                        try clear c20
                        try clear c20b0
                        try clear c20b1
                        try clear p25
                        try clear q25
                        try clear hx25
                        try clear qi25
                        try clear c26
                        try clear p26
                        try clear q26
                        try clear hx26
                        try clear qi26
                        try clear c27
                        try clear c27b0
                        try clear c27b1
                        try clear c27b2
                        try clear c28
                        try clear c28b0
                        try clear c28b1
                        try clear c28b2
                        try clear hcv33
                        try clear c35
                        try clear c35b0
                        try clear c35b1
                        try clear c36
                        try clear hx258_0
                        try clear hx258_1
                        try clear hx258_2
                        try clear hx258_3
                        try clear hx259_0
                        try clear hx259_1
                        try clear hx259_2
                        try clear hx259_3
                        try clear hx260_0
                        try clear hx260_1
                        try clear hx260_2
                        try clear hx260_3
                        try clear hx261_0
                        try clear hx261_1
                        try clear hx261_2
                        try clear hx261_3
                        try clear p2
                        try clear p25
                        try clear p258
                        try clear p259
                        try clear p26
                        try clear p260
                        try clear p261
                        try clear p6
                        try clear q2
                        try clear q25
                        try clear q258
                        try clear q259
                        try clear q26
                        try clear q260
                        try clear q261
                        obtain ⟨x15_3, x16_3, rfl, rfl, HA, HK3, HB⟩ := hrel
                        cases gk with
                        | zero => exact absurd HA.out (by simp [erewhilelaw33_CaltokOne.l0])
                        | succ k3 =>
                          have H := HA.out
                          clear HA
                          simp only [erewhilelaw33_CaltokOne.l0] at H
                          by_cases c37 : x16_3 < (l1.length : Int)
                          · rw [if_pos c37] at H
                            have c37b0 : decide (x16_3 < (l1.length : Int)) = true := decide_eq_true c37
                            clear c37
                            by_cases c38 : 0 ≤ x16_3
                            · rw [if_pos c38] at H
                              have c38b0 : decide (0 ≤ x16_3) = true := decide_eq_true c38
                              clear c38
                              obtain ⟨y271, hy271⟩ : ∃ y_ : List Int, y_ = (([(97 + (Int.tmod (rd l1 x16_3) 26)) % 256] : List Int)) := ⟨_, rfl⟩
                              replace H : (if x15_3.size + (strOfNums y271).size ≤ 9223372036854775807 then (erewhilelaw33_CaltokOne.l0 k3 l1 (strOfNums y262) (x15_3 ++ (strOfNums y271)) (wrap64 (x16_3 + 1))) else (none)) = some r := by first | (rw [hy271]; with_reducible exact H) | (have H2_ := (Option.bind_some _ _).symm.trans H; rw [hy271]; with_reducible exact H2_) | (have H2_ := (Option.bind_some _ _).symm.trans H; with_reducible exact H2_) | with_reducible exact H | (rw [hy271]; exact H) | exact H
                              have Ny271 := Aside0.mk hy271
                              clear hy271
                              by_cases c39 : x15_3.size + (strOfNums y271).size ≤ 9223372036854775807
                              · rw [if_pos c39] at H
                                have c39b0 := eq_true c39
                                have c39b1 : decide (x15_3.size + (strOfNums y271).size ≤ 9223372036854775807) = true := decide_eq_true c39
                                try have c39b2 : (9223372036854775807 < x15_3.size + (strOfNums y271).size) = False := eq_false (Nat.not_lt.2 c39)
                                have H' := Aside0.mk H
                                clear H
                                have p270 : 0 ≤ (x16_3 : Int) := of_decide_eq_true (by first | (with_reducible assumption) | assumption)
                                have q270 : x16_3 < (l1.length : Int) := of_decide_eq_true (by first | (with_reducible assumption) | assumption)
                                obtain ⟨ad270, e270, hx270_0⟩ := Kd.at_int HR1.out x16_3 p270 q270
                                cases e270
                                replace hx270_0 := (HB.out.cell (World.block_lt_of_cell? w _ hx270_0)).trans hx270_0
                                replace p270 := eq_true p270
                                replace q270 := eq_true q270
                                go_wp2_with (first | ((with_reducible refine gate_dst (N := 109) rfl ?_); (try (refine gate_guard (by rfl) ?_; dsimp only)); refine Kd.R_lit (Kd.int .u8) _ 5 ?hg (N := 109) ?hd (xs := ([(97 + (Int.tmod (rd l1 x16_3) 26)) % 256] : List Int)) (inner := [.int .u8 ((97 + (Int.tmod (rd l1 x16_3) 26)) % 256)]) (ok := fun _ => True) (okp := fun _ => True) ?hr ?hp (fun _ hk => hk) trivial (Below.refl _ _) (Nat.le_refl _) (by simp) ?_; (case hd => rfl); (case hg => rfl); (case hr => first | (go_simp; done) | (go_simp; rfl)); (case hp => exact (Reps.one (show Kd.M (Kd.int .u8) _ _ _ ((97 + (Int.tmod (rd l1 x16_3) 26)) % 256) [.int .u8 ((97 + (Int.tmod (rd l1 x16_3) 26)) % 256)] from rfl) (Reps.none _ _))); intro v272 w40 ho41 hb hg_ hnew_; clear hg_ hnew_; (first | rw [← Ny271.out] at ho41 | (simp only [Int.reduceToNat] at ho41; rw [← Ny271.out] at ho41)); have n0_ := Aside0.mk (Kd.R_lower ho41 (below_size (by repeat (first | (with_reducible first | exact HB.out | apply below_alloc | apply pw_below_drewN | apply below_drew1) | exact HB.out)))); have n1_ := Aside0.mk (below_step (by repeat (first | (with_reducible first | exact HB.out | apply below_alloc | apply pw_below_drewN | apply below_drew1) | exact HB.out)) hb); clear HB; have HO273 := n0_; have HB := n1_; clear n0_ n1_; clear hb ho41; have hcv42 := own_string (P := Tryd.prog) Tryd.underlying41 Tryd.underlying5 Tryd.underlying9 (Kd.own_of_R HO273.out)))
                                go_roundg k3
                                case measure => have := HJ9.out; have := HJ29.out; have := HK3.out; omega
                                case rel => exact ⟨(x15_3 ++ (strOfNums y271)), (wrap64 (x16_3 + 1)), (by first | rfl | (simp; done) | (simp [*]; done)), (by first | rfl | (simp; done) | (simp [*]; done)), H', ⟨by have := HJ9.out; have := HJ29.out; have := HK3.out; omega⟩, ⟨by repeat (first | (with_reducible first | exact HB.out | apply below_alloc | apply pw_below_drewN | apply below_drew1) | exact HB.out)⟩⟩
                              · rw [if_neg c39] at H
                                exact absurd H (by simp)
                            · rw [if_neg c38] at H
                              exact absurd H (by simp)
                          · rw [if_neg c37] at H
                            have c37b0 : decide (x16_3 < (l1.length : Int)) = false := decide_eq_false c37
                            clear c37
                            by_cases c43 : x15_3.size + (strOfNums y262).size ≤ 9223372036854775807
                            · rw [if_pos c43] at H
                              have c43b0 := eq_true c43
                              have c43b1 : decide (x15_3.size + (strOfNums y262).size ≤ 9223372036854775807) = true := decide_eq_true c43
                              try have c43b2 : (9223372036854775807 < x15_3.size + (strOfNums y262).size) = False := eq_false (Nat.not_lt.2 c43)
                              replace H := Option.bind_eq_some_iff.mp H
                              obtain ⟨⟨t274, t275, t276⟩, A440, H⟩ := H
                              replace H : (if t276 = 0 then (if (t274.length : Int) = 2 then (if 0 < (t274.length : Int) then (if ((rd_T33 t274 0).f0) = 1 then (if ((rd_T33 t274 0).f1).toList = (x15_3 ++ (strOfNums y262)).toList then (if ((rd_T33 t274 0).f3) = 0 then (some (((rd_T33 t274 0).f2) == 0)) else (some false)) else (some false)) else (some false)) else (none)) else (some false)) else (some false)) = some r := H
                              have A44 := Aside0.mk A440
                              clear A440
                              by_cases c45 : t276 = 0
                              · rw [if_pos c45] at H
                                have c45b0 : (t276 == 0) = true := beq_iff_eq.mpr c45
                                have c45b1 : (t276 != 0) = false := bne_eq_false_iff_eq.mpr c45
                                clear c45
                                by_cases c46 : (t274.length : Int) = 2
                                · rw [if_pos c46] at H
                                  have c46b0 : ((t274.length : Int) == 2) = true := beq_iff_eq.mpr c46
                                  have c46b1 : ((t274.length : Int) != 2) = false := bne_eq_false_iff_eq.mpr c46
                                  clear c46
                                  by_cases c47 : 0 < (t274.length : Int)
                                  · rw [if_pos c47] at H
                                    have c47b0 : decide (0 < (t274.length : Int)) = true := decide_eq_true c47
                                    have c47b1 : decide (0 < t274.length) = true := decide_eq_true (by omega)
                                    clear c47
                                    by_cases c48 : ((rd_T33 t274 0).f0) = 1
                                    · rw [if_pos c48] at H
                                      have c48b0 : (((rd_T33 t274 0).f0) == 1) = true := beq_iff_eq.mpr c48
                                      have c48b1 : (((rd_T33 t274 0).f0) != 1) = false := bne_eq_false_iff_eq.mpr c48
                                      clear c48
                                      by_cases c49 : ((rd_T33 t274 0).f1).toList = (x15_3 ++ (strOfNums y262)).toList
                                      · rw [if_pos c49] at H
                                        have c49b0 : (((rd_T33 t274 0).f1).toList == (x15_3 ++ (strOfNums y262)).toList) = true := beq_iff_eq.mpr c49
                                        have c49b1 : (((rd_T33 t274 0).f1).toList != (x15_3 ++ (strOfNums y262)).toList) = false := bne_eq_false_iff_eq.mpr c49
                                        clear c49
                                        by_cases c50 : ((rd_T33 t274 0).f3) = 0
                                        · rw [if_pos c50] at H
                                          have c50b0 : (((rd_T33 t274 0).f3) == 0) = true := beq_iff_eq.mpr c50
                                          have c50b1 : (((rd_T33 t274 0).f3) != 0) = false := bne_eq_false_iff_eq.mpr c50
                                          clear c50
                                          obtain rfl := Option.some.inj H
                                          go_wp2_with (first | ((with_reducible refine gate_callee (f := 10) rfl ?_); refine goesL_ (some 116) rfl rfl Tryd.func10 (by kernel_rfl) rfl #[.string (x15_3 ++ (strOfNums y262))] rfl (by (try simp only [List.map_toArray, List.map_cons, List.map_nil]); first | done | rfl | (simp only [List.length_drop, List.length_take]; rfl)) ?_; (with_reducible refine (caltok_Lex.calls k3 (x15_3 ++ (strOfNums y262)) t274 t275 t276 _ ?sideU A44.out).mono ?_); (case sideU => exact Units.below HU.out (by repeat (first | (with_reducible first | exact HB.out | apply below_alloc | apply pw_below_drewN | apply below_drew1) | exact HB.out))); rintro e w51 ⟨v277, rfl, ho0, hb⟩; refine ⟨_, rfl, ?_⟩; have n0_ := Aside0.mk (Kd.R_lower ho0 (below_size (by repeat (first | (with_reducible first | exact HB.out | apply below_alloc | apply pw_below_drewN | apply below_drew1) | exact HB.out)))); have n1_ := Aside0.mk (below_step (by repeat (first | (with_reducible first | exact HB.out | apply below_alloc | apply pw_below_drewN | apply below_drew1) | exact HB.out)) hb); clear HB; have HO278 := n0_; have HB := n1_; clear n0_ n1_; (try clear hb); (try clear hb2); (try clear hk); (try clear hi); (try clear ho0); obtain ⟨Ao52, co52, eo52⟩ := Kd.R_slice HO278.out; subst eo52; have p279 : 0 ≤ (0 : Int) := (by omega); have q279 : 0 < (t274.length : Int) := of_decide_eq_true (by first | (with_reducible assumption) | assumption); obtain ⟨ad279, e279, hx279_0, hx279_1, hx279_2, hx279_3⟩ := at_T33 (Kd.R_reads' HO278.out).2.2 0 p279 q279; cases e279; have qi279 : (0 < t274.length) = True := eq_true (by omega); (try rw [show ((0 : Int)).toNat = 0 from rfl] at hx279_0); (try rw [show 0 * 4 = 0 from rfl] at hx279_0); (try rw [Addr.add_zero'] at hx279_0); (try rw [show ((0 : Int)).toNat = 0 from rfl] at hx279_1); (try rw [show 0 * 4 = 0 from rfl] at hx279_1); (try rw [Addr.add_zero'] at hx279_1); (try rw [show ((0 : Int)).toNat = 0 from rfl] at hx279_2); (try rw [show 0 * 4 = 0 from rfl] at hx279_2); (try rw [Addr.add_zero'] at hx279_2); (try rw [show ((0 : Int)).toNat = 0 from rfl] at hx279_3); (try rw [show 0 * 4 = 0 from rfl] at hx279_3); (try rw [Addr.add_zero'] at hx279_3); replace p279 := eq_true p279; replace q279 := eq_true q279; have p280 : 0 ≤ (0 : Int) := (by omega); have q280 : 0 < (t274.length : Int) := of_decide_eq_true (by first | (with_reducible assumption) | assumption); obtain ⟨ad280, e280, hx280_0, hx280_1, hx280_2, hx280_3⟩ := at_T33 (Kd.R_reads' HO278.out).2.2 0 p280 q280; obtain rfl : ad279 = ad280 := (by injection e280); have qi280 : (0 < t274.length) = True := eq_true (by omega); (try rw [show ((0 : Int)).toNat = 0 from rfl] at hx280_0); (try rw [show 0 * 4 = 0 from rfl] at hx280_0); (try rw [Addr.add_zero'] at hx280_0); (try rw [show ((0 : Int)).toNat = 0 from rfl] at hx280_1); (try rw [show 0 * 4 = 0 from rfl] at hx280_1); (try rw [Addr.add_zero'] at hx280_1); (try rw [show ((0 : Int)).toNat = 0 from rfl] at hx280_2); (try rw [show 0 * 4 = 0 from rfl] at hx280_2); (try rw [Addr.add_zero'] at hx280_2); (try rw [show ((0 : Int)).toNat = 0 from rfl] at hx280_3); (try rw [show 0 * 4 = 0 from rfl] at hx280_3); (try rw [Addr.add_zero'] at hx280_3); replace p280 := eq_true p280; replace q280 := eq_true q280; have p281 : 0 ≤ (0 : Int) := (by omega); have q281 : 0 < (t274.length : Int) := of_decide_eq_true (by first | (with_reducible assumption) | assumption); obtain ⟨ad281, e281, hx281_0, hx281_1, hx281_2, hx281_3⟩ := at_T33 (Kd.R_reads' HO278.out).2.2 0 p281 q281; obtain rfl : ad279 = ad281 := (by injection e281); have qi281 : (0 < t274.length) = True := eq_true (by omega); (try rw [show ((0 : Int)).toNat = 0 from rfl] at hx281_0); (try rw [show 0 * 4 = 0 from rfl] at hx281_0); (try rw [Addr.add_zero'] at hx281_0); (try rw [show ((0 : Int)).toNat = 0 from rfl] at hx281_1); (try rw [show 0 * 4 = 0 from rfl] at hx281_1); (try rw [Addr.add_zero'] at hx281_1); (try rw [show ((0 : Int)).toNat = 0 from rfl] at hx281_2); (try rw [show 0 * 4 = 0 from rfl] at hx281_2); (try rw [Addr.add_zero'] at hx281_2); (try rw [show ((0 : Int)).toNat = 0 from rfl] at hx281_3); (try rw [show 0 * 4 = 0 from rfl] at hx281_3); (try rw [Addr.add_zero'] at hx281_3); replace p281 := eq_true p281; replace q281 := eq_true q281; have p282 : 0 ≤ (0 : Int) := (by omega); have q282 : 0 < (t274.length : Int) := of_decide_eq_true (by first | (with_reducible assumption) | assumption); obtain ⟨ad282, e282, hx282_0, hx282_1, hx282_2, hx282_3⟩ := at_T33 (Kd.R_reads' HO278.out).2.2 0 p282 q282; obtain rfl : ad279 = ad282 := (by injection e282); have qi282 : (0 < t274.length) = True := eq_true (by omega); (try rw [show ((0 : Int)).toNat = 0 from rfl] at hx282_0); (try rw [show 0 * 4 = 0 from rfl] at hx282_0); (try rw [Addr.add_zero'] at hx282_0); (try rw [show ((0 : Int)).toNat = 0 from rfl] at hx282_1); (try rw [show 0 * 4 = 0 from rfl] at hx282_1); (try rw [Addr.add_zero'] at hx282_1); (try rw [show ((0 : Int)).toNat = 0 from rfl] at hx282_2); (try rw [show 0 * 4 = 0 from rfl] at hx282_2); (try rw [Addr.add_zero'] at hx282_2); (try rw [show ((0 : Int)).toNat = 0 from rfl] at hx282_3); (try rw [show 0 * 4 = 0 from rfl] at hx282_3); (try rw [Addr.add_zero'] at hx282_3); replace p282 := eq_true p282; replace q282 := eq_true q282))
                                          go_ret
                                          exact ⟨by first | rfl | (simp [errW_none, errW_some] <;> rfl) | (simp [*, errW_none, errW_some] <;> rfl), by repeat (first | (with_reducible first | exact HB.out | apply below_alloc | apply pw_below_drewN | apply below_drew1) | exact HB.out)⟩
                                        · rw [if_neg c50] at H
                                          have c50b0 : (((rd_T33 t274 0).f3) == 0) = false := beq_eq_false_iff_ne.mpr c50
                                          have c50b1 : (((rd_T33 t274 0).f3) != 0) = true := bne_iff_ne.mpr c50
                                          obtain rfl := Option.some.inj H
                                          go_wp2_with (first | ((with_reducible refine gate_callee (f := 10) rfl ?_); refine goesL_ (some 116) rfl rfl Tryd.func10 (by kernel_rfl) rfl #[.string (x15_3 ++ (strOfNums y262))] rfl (by (try simp only [List.map_toArray, List.map_cons, List.map_nil]); first | done | rfl | (simp only [List.length_drop, List.length_take]; rfl)) ?_; (with_reducible refine (caltok_Lex.calls k3 (x15_3 ++ (strOfNums y262)) t274 t275 t276 _ ?sideU A44.out).mono ?_); (case sideU => exact Units.below HU.out (by repeat (first | (with_reducible first | exact HB.out | apply below_alloc | apply pw_below_drewN | apply below_drew1) | exact HB.out))); rintro e w53 ⟨v277, rfl, ho0, hb⟩; refine ⟨_, rfl, ?_⟩; have n0_ := Aside0.mk (Kd.R_lower ho0 (below_size (by repeat (first | (with_reducible first | exact HB.out | apply below_alloc | apply pw_below_drewN | apply below_drew1) | exact HB.out)))); have n1_ := Aside0.mk (below_step (by repeat (first | (with_reducible first | exact HB.out | apply below_alloc | apply pw_below_drewN | apply below_drew1) | exact HB.out)) hb); clear HB; have HO278 := n0_; have HB := n1_; clear n0_ n1_; (try clear hb); (try clear hb2); (try clear hk); (try clear hi); (try clear ho0); obtain ⟨Ao54, co54, eo54⟩ := Kd.R_slice HO278.out; subst eo54; have p279 : 0 ≤ (0 : Int) := (by omega); have q279 : 0 < (t274.length : Int) := of_decide_eq_true (by first | (with_reducible assumption) | assumption); obtain ⟨ad279, e279, hx279_0, hx279_1, hx279_2, hx279_3⟩ := at_T33 (Kd.R_reads' HO278.out).2.2 0 p279 q279; cases e279; have qi279 : (0 < t274.length) = True := eq_true (by omega); (try rw [show ((0 : Int)).toNat = 0 from rfl] at hx279_0); (try rw [show 0 * 4 = 0 from rfl] at hx279_0); (try rw [Addr.add_zero'] at hx279_0); (try rw [show ((0 : Int)).toNat = 0 from rfl] at hx279_1); (try rw [show 0 * 4 = 0 from rfl] at hx279_1); (try rw [Addr.add_zero'] at hx279_1); (try rw [show ((0 : Int)).toNat = 0 from rfl] at hx279_2); (try rw [show 0 * 4 = 0 from rfl] at hx279_2); (try rw [Addr.add_zero'] at hx279_2); (try rw [show ((0 : Int)).toNat = 0 from rfl] at hx279_3); (try rw [show 0 * 4 = 0 from rfl] at hx279_3); (try rw [Addr.add_zero'] at hx279_3); replace p279 := eq_true p279; replace q279 := eq_true q279; have p280 : 0 ≤ (0 : Int) := (by omega); have q280 : 0 < (t274.length : Int) := of_decide_eq_true (by first | (with_reducible assumption) | assumption); obtain ⟨ad280, e280, hx280_0, hx280_1, hx280_2, hx280_3⟩ := at_T33 (Kd.R_reads' HO278.out).2.2 0 p280 q280; obtain rfl : ad279 = ad280 := (by injection e280); have qi280 : (0 < t274.length) = True := eq_true (by omega); (try rw [show ((0 : Int)).toNat = 0 from rfl] at hx280_0); (try rw [show 0 * 4 = 0 from rfl] at hx280_0); (try rw [Addr.add_zero'] at hx280_0); (try rw [show ((0 : Int)).toNat = 0 from rfl] at hx280_1); (try rw [show 0 * 4 = 0 from rfl] at hx280_1); (try rw [Addr.add_zero'] at hx280_1); (try rw [show ((0 : Int)).toNat = 0 from rfl] at hx280_2); (try rw [show 0 * 4 = 0 from rfl] at hx280_2); (try rw [Addr.add_zero'] at hx280_2); (try rw [show ((0 : Int)).toNat = 0 from rfl] at hx280_3); (try rw [show 0 * 4 = 0 from rfl] at hx280_3); (try rw [Addr.add_zero'] at hx280_3); replace p280 := eq_true p280; replace q280 := eq_true q280; have p281 : 0 ≤ (0 : Int) := (by omega); have q281 : 0 < (t274.length : Int) := of_decide_eq_true (by first | (with_reducible assumption) | assumption); obtain ⟨ad281, e281, hx281_0, hx281_1, hx281_2, hx281_3⟩ := at_T33 (Kd.R_reads' HO278.out).2.2 0 p281 q281; obtain rfl : ad279 = ad281 := (by injection e281); have qi281 : (0 < t274.length) = True := eq_true (by omega); (try rw [show ((0 : Int)).toNat = 0 from rfl] at hx281_0); (try rw [show 0 * 4 = 0 from rfl] at hx281_0); (try rw [Addr.add_zero'] at hx281_0); (try rw [show ((0 : Int)).toNat = 0 from rfl] at hx281_1); (try rw [show 0 * 4 = 0 from rfl] at hx281_1); (try rw [Addr.add_zero'] at hx281_1); (try rw [show ((0 : Int)).toNat = 0 from rfl] at hx281_2); (try rw [show 0 * 4 = 0 from rfl] at hx281_2); (try rw [Addr.add_zero'] at hx281_2); (try rw [show ((0 : Int)).toNat = 0 from rfl] at hx281_3); (try rw [show 0 * 4 = 0 from rfl] at hx281_3); (try rw [Addr.add_zero'] at hx281_3); replace p281 := eq_true p281; replace q281 := eq_true q281))
                                          go_ret
                                          exact ⟨by first | rfl | (simp [errW_none, errW_some] <;> rfl) | (simp [*, errW_none, errW_some] <;> rfl), by repeat (first | (with_reducible first | exact HB.out | apply below_alloc | apply pw_below_drewN | apply below_drew1) | exact HB.out)⟩
                                      · rw [if_neg c49] at H
                                        have c49b0 : (((rd_T33 t274 0).f1).toList == (x15_3 ++ (strOfNums y262)).toList) = false := beq_eq_false_iff_ne.mpr c49
                                        have c49b1 : (((rd_T33 t274 0).f1).toList != (x15_3 ++ (strOfNums y262)).toList) = true := bne_iff_ne.mpr c49
                                        obtain rfl := Option.some.inj H
                                        go_wp2_with (first | ((with_reducible refine gate_callee (f := 10) rfl ?_); refine goesL_ (some 116) rfl rfl Tryd.func10 (by kernel_rfl) rfl #[.string (x15_3 ++ (strOfNums y262))] rfl (by (try simp only [List.map_toArray, List.map_cons, List.map_nil]); first | done | rfl | (simp only [List.length_drop, List.length_take]; rfl)) ?_; (with_reducible refine (caltok_Lex.calls k3 (x15_3 ++ (strOfNums y262)) t274 t275 t276 _ ?sideU A44.out).mono ?_); (case sideU => exact Units.below HU.out (by repeat (first | (with_reducible first | exact HB.out | apply below_alloc | apply pw_below_drewN | apply below_drew1) | exact HB.out))); rintro e w55 ⟨v277, rfl, ho0, hb⟩; refine ⟨_, rfl, ?_⟩; have n0_ := Aside0.mk (Kd.R_lower ho0 (below_size (by repeat (first | (with_reducible first | exact HB.out | apply below_alloc | apply pw_below_drewN | apply below_drew1) | exact HB.out)))); have n1_ := Aside0.mk (below_step (by repeat (first | (with_reducible first | exact HB.out | apply below_alloc | apply pw_below_drewN | apply below_drew1) | exact HB.out)) hb); clear HB; have HO278 := n0_; have HB := n1_; clear n0_ n1_; (try clear hb); (try clear hb2); (try clear hk); (try clear hi); (try clear ho0); obtain ⟨Ao56, co56, eo56⟩ := Kd.R_slice HO278.out; subst eo56; have p279 : 0 ≤ (0 : Int) := (by omega); have q279 : 0 < (t274.length : Int) := of_decide_eq_true (by first | (with_reducible assumption) | assumption); obtain ⟨ad279, e279, hx279_0, hx279_1, hx279_2, hx279_3⟩ := at_T33 (Kd.R_reads' HO278.out).2.2 0 p279 q279; cases e279; have qi279 : (0 < t274.length) = True := eq_true (by omega); (try rw [show ((0 : Int)).toNat = 0 from rfl] at hx279_0); (try rw [show 0 * 4 = 0 from rfl] at hx279_0); (try rw [Addr.add_zero'] at hx279_0); (try rw [show ((0 : Int)).toNat = 0 from rfl] at hx279_1); (try rw [show 0 * 4 = 0 from rfl] at hx279_1); (try rw [Addr.add_zero'] at hx279_1); (try rw [show ((0 : Int)).toNat = 0 from rfl] at hx279_2); (try rw [show 0 * 4 = 0 from rfl] at hx279_2); (try rw [Addr.add_zero'] at hx279_2); (try rw [show ((0 : Int)).toNat = 0 from rfl] at hx279_3); (try rw [show 0 * 4 = 0 from rfl] at hx279_3); (try rw [Addr.add_zero'] at hx279_3); replace p279 := eq_true p279; replace q279 := eq_true q279; have p280 : 0 ≤ (0 : Int) := (by omega); have q280 : 0 < (t274.length : Int) := of_decide_eq_true (by first | (with_reducible assumption) | assumption); obtain ⟨ad280, e280, hx280_0, hx280_1, hx280_2, hx280_3⟩ := at_T33 (Kd.R_reads' HO278.out).2.2 0 p280 q280; obtain rfl : ad279 = ad280 := (by injection e280); have qi280 : (0 < t274.length) = True := eq_true (by omega); (try rw [show ((0 : Int)).toNat = 0 from rfl] at hx280_0); (try rw [show 0 * 4 = 0 from rfl] at hx280_0); (try rw [Addr.add_zero'] at hx280_0); (try rw [show ((0 : Int)).toNat = 0 from rfl] at hx280_1); (try rw [show 0 * 4 = 0 from rfl] at hx280_1); (try rw [Addr.add_zero'] at hx280_1); (try rw [show ((0 : Int)).toNat = 0 from rfl] at hx280_2); (try rw [show 0 * 4 = 0 from rfl] at hx280_2); (try rw [Addr.add_zero'] at hx280_2); (try rw [show ((0 : Int)).toNat = 0 from rfl] at hx280_3); (try rw [show 0 * 4 = 0 from rfl] at hx280_3); (try rw [Addr.add_zero'] at hx280_3); replace p280 := eq_true p280; replace q280 := eq_true q280))
                                        go_ret
                                        exact ⟨by first | rfl | (simp [errW_none, errW_some] <;> rfl) | (simp [*, errW_none, errW_some] <;> rfl), by repeat (first | (with_reducible first | exact HB.out | apply below_alloc | apply pw_below_drewN | apply below_drew1) | exact HB.out)⟩
                                    · rw [if_neg c48] at H
                                      have c48b0 : (((rd_T33 t274 0).f0) == 1) = false := beq_eq_false_iff_ne.mpr c48
                                      have c48b1 : (((rd_T33 t274 0).f0) != 1) = true := bne_iff_ne.mpr c48
                                      obtain rfl := Option.some.inj H
                                      go_wp2_with (first | ((with_reducible refine gate_callee (f := 10) rfl ?_); refine goesL_ (some 116) rfl rfl Tryd.func10 (by kernel_rfl) rfl #[.string (x15_3 ++ (strOfNums y262))] rfl (by (try simp only [List.map_toArray, List.map_cons, List.map_nil]); first | done | rfl | (simp only [List.length_drop, List.length_take]; rfl)) ?_; (with_reducible refine (caltok_Lex.calls k3 (x15_3 ++ (strOfNums y262)) t274 t275 t276 _ ?sideU A44.out).mono ?_); (case sideU => exact Units.below HU.out (by repeat (first | (with_reducible first | exact HB.out | apply below_alloc | apply pw_below_drewN | apply below_drew1) | exact HB.out))); rintro e w57 ⟨v277, rfl, ho0, hb⟩; refine ⟨_, rfl, ?_⟩; have n0_ := Aside0.mk (Kd.R_lower ho0 (below_size (by repeat (first | (with_reducible first | exact HB.out | apply below_alloc | apply pw_below_drewN | apply below_drew1) | exact HB.out)))); have n1_ := Aside0.mk (below_step (by repeat (first | (with_reducible first | exact HB.out | apply below_alloc | apply pw_below_drewN | apply below_drew1) | exact HB.out)) hb); clear HB; have HO278 := n0_; have HB := n1_; clear n0_ n1_; (try clear hb); (try clear hb2); (try clear hk); (try clear hi); (try clear ho0); obtain ⟨Ao58, co58, eo58⟩ := Kd.R_slice HO278.out; subst eo58; have p279 : 0 ≤ (0 : Int) := (by omega); have q279 : 0 < (t274.length : Int) := of_decide_eq_true (by first | (with_reducible assumption) | assumption); obtain ⟨ad279, e279, hx279_0, hx279_1, hx279_2, hx279_3⟩ := at_T33 (Kd.R_reads' HO278.out).2.2 0 p279 q279; cases e279; have qi279 : (0 < t274.length) = True := eq_true (by omega); (try rw [show ((0 : Int)).toNat = 0 from rfl] at hx279_0); (try rw [show 0 * 4 = 0 from rfl] at hx279_0); (try rw [Addr.add_zero'] at hx279_0); (try rw [show ((0 : Int)).toNat = 0 from rfl] at hx279_1); (try rw [show 0 * 4 = 0 from rfl] at hx279_1); (try rw [Addr.add_zero'] at hx279_1); (try rw [show ((0 : Int)).toNat = 0 from rfl] at hx279_2); (try rw [show 0 * 4 = 0 from rfl] at hx279_2); (try rw [Addr.add_zero'] at hx279_2); (try rw [show ((0 : Int)).toNat = 0 from rfl] at hx279_3); (try rw [show 0 * 4 = 0 from rfl] at hx279_3); (try rw [Addr.add_zero'] at hx279_3); replace p279 := eq_true p279; replace q279 := eq_true q279))
                                      go_ret
                                      exact ⟨by first | rfl | (simp [errW_none, errW_some] <;> rfl) | (simp [*, errW_none, errW_some] <;> rfl), by repeat (first | (with_reducible first | exact HB.out | apply below_alloc | apply pw_below_drewN | apply below_drew1) | exact HB.out)⟩
                                  · rw [if_neg c47] at H
                                    exact absurd H (by simp)
                                · rw [if_neg c46] at H
                                  have c46b0 : ((t274.length : Int) == 2) = false := beq_eq_false_iff_ne.mpr c46
                                  have c46b1 : ((t274.length : Int) != 2) = true := bne_iff_ne.mpr c46
                                  obtain rfl := Option.some.inj H
                                  go_wp2_with (first | ((with_reducible refine gate_callee (f := 10) rfl ?_); refine goesL_ (some 116) rfl rfl Tryd.func10 (by kernel_rfl) rfl #[.string (x15_3 ++ (strOfNums y262))] rfl (by (try simp only [List.map_toArray, List.map_cons, List.map_nil]); first | done | rfl | (simp only [List.length_drop, List.length_take]; rfl)) ?_; (with_reducible refine (caltok_Lex.calls k3 (x15_3 ++ (strOfNums y262)) t274 t275 t276 _ ?sideU A44.out).mono ?_); (case sideU => exact Units.below HU.out (by repeat (first | (with_reducible first | exact HB.out | apply below_alloc | apply pw_below_drewN | apply below_drew1) | exact HB.out))); rintro e w59 ⟨v277, rfl, ho0, hb⟩; refine ⟨_, rfl, ?_⟩; have n0_ := Aside0.mk (Kd.R_lower ho0 (below_size (by repeat (first | (with_reducible first | exact HB.out | apply below_alloc | apply pw_below_drewN | apply below_drew1) | exact HB.out)))); have n1_ := Aside0.mk (below_step (by repeat (first | (with_reducible first | exact HB.out | apply below_alloc | apply pw_below_drewN | apply below_drew1) | exact HB.out)) hb); clear HB; have HO278 := n0_; have HB := n1_; clear n0_ n1_; (try clear hb); (try clear hb2); (try clear hk); (try clear hi); (try clear ho0); obtain ⟨Ao60, co60, eo60⟩ := Kd.R_slice HO278.out; subst eo60))
                                  go_ret
                                  exact ⟨by first | rfl | (simp [errW_none, errW_some] <;> rfl) | (simp [*, errW_none, errW_some] <;> rfl), by repeat (first | (with_reducible first | exact HB.out | apply below_alloc | apply pw_below_drewN | apply below_drew1) | exact HB.out)⟩
                              · rw [if_neg c45] at H
                                have c45b0 : (t276 == 0) = false := beq_eq_false_iff_ne.mpr c45
                                have c45b1 : (t276 != 0) = true := bne_iff_ne.mpr c45
                                obtain rfl := Option.some.inj H
                                go_wp2_with (first | ((with_reducible refine gate_callee (f := 10) rfl ?_); refine goesL_ (some 116) rfl rfl Tryd.func10 (by kernel_rfl) rfl #[.string (x15_3 ++ (strOfNums y262))] rfl (by (try simp only [List.map_toArray, List.map_cons, List.map_nil]); first | done | rfl | (simp only [List.length_drop, List.length_take]; rfl)) ?_; (with_reducible refine (caltok_Lex.calls k3 (x15_3 ++ (strOfNums y262)) t274 t275 t276 _ ?sideU A44.out).mono ?_); (case sideU => exact Units.below HU.out (by repeat (first | (with_reducible first | exact HB.out | apply below_alloc | apply pw_below_drewN | apply below_drew1) | exact HB.out))); rintro e w61 ⟨v277, rfl, ho0, hb⟩; refine ⟨_, rfl, ?_⟩; have n0_ := Aside0.mk (Kd.R_lower ho0 (below_size (by repeat (first | (with_reducible first | exact HB.out | apply below_alloc | apply pw_below_drewN | apply below_drew1) | exact HB.out)))); have n1_ := Aside0.mk (below_step (by repeat (first | (with_reducible first | exact HB.out | apply below_alloc | apply pw_below_drewN | apply below_drew1) | exact HB.out)) hb); clear HB; have HO278 := n0_; have HB := n1_; clear n0_ n1_; (try clear hb); (try clear hb2); (try clear hk); (try clear hi); (try clear ho0)))
                                go_ret
                                exact ⟨by first | rfl | (simp [errW_none, errW_some] <;> rfl) | (simp [*, errW_none, errW_some] <;> rfl), by repeat (first | (with_reducible first | exact HB.out | apply below_alloc | apply pw_below_drewN | apply below_drew1) | exact HB.out)⟩
                            · rw [if_neg c43] at H
                              exact absurd H (by simp)
              · rw [if_neg c28] at H
                exact absurd H (by simp)
            · rw [if_neg c27] at H
              exact absurd H (by simp)
  · replace c5 := Bool.eq_false_iff.mpr c5
    subst c5
    have H1 : (some false) = some r := by rw [if_neg (show ¬ (false = true) by decide)] at H; exact H
    clear H
    have H := H1
    clear H1
    obtain rfl := Option.some.inj H
    go_enter Tryd.func8, Tryd.ntmps8
    go_wp2_with (first | ((with_reducible refine gate_callee (f := 9) rfl ?_); refine goesL_ (some 20) rfl rfl Tryd.func9 (by kernel_rfl) rfl #[] rfl (by (try simp only [List.map_toArray, List.map_cons, List.map_nil]); first | done | rfl | (simp only [List.length_drop, List.length_take]; rfl)) ?_; (with_reducible refine (erewhilelaw33_awake.calls k  false _ ?sideU A4.out).mono ?_); (case sideU => exact Units.below HU.out (by repeat (first | (with_reducible first | exact HB.out | apply below_alloc | apply pw_below_drewN | apply below_drew1) | exact HB.out))); rintro e w62 ⟨rfl, hb⟩; refine ⟨_, rfl, ?_⟩; have n0_ := Aside0.mk (below_step (by repeat (first | (with_reducible first | exact HB.out | apply below_alloc | apply pw_below_drewN | apply below_drew1) | exact HB.out)) hb); clear HB; have HB := n0_; clear n0_; (try clear hb); (try clear hb2); (try clear hk); (try clear hi)))
    go_ret
    exact ⟨by first | rfl | (simp [errW_none, errW_some] <;> rfl) | (simp [*, errW_none, errW_some] <;> rfl), by repeat (first | (with_reducible first | exact HB.out | apply below_alloc | apply pw_below_drewN | apply below_drew1) | exact HB.out)⟩


end Go.Proofs.YtmmkbdampdkjoaaDoor.All
