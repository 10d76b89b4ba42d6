-- Printed by a program (wip/mkprint.sh over the kit's print.py) out of the translation; Lean checks it.
import Derived.Test.YtmmkbdampdkjoaaDoorAllx0
import Derived.Test.YtmmkbdampdkjoaaDoorAllx4
import Derived.Test.YtmmkbdampdkjoaaDoorAllx12
import Derived.Test.YtmmkbdampdkjoaaDoorMinutes
namespace Go.Proofs.YtmmkbdampdkjoaaDoor.All
open Go.RowKit Go.Proofs.YtmmkbdampdkjoaaDoorW.PrintWords Go.Proofs.YtmmkbdampdkjoaaDoorW.PrintLast Go.Proofs.YtmmkbdampdkjoaaDoorW.PrintMore
attribute [local go_sem] max2_int min2_int max_two min_two max_three min_three max_four min_four   -- for this text's walks alone
set_option linter.unusedVariables false
set_option linter.unusedSimpArgs false

/-! ### erewhilelaw33_CaltokSums: function 7 -/
def erewhilelaw33_CaltokSums.j0 : Nat → Int → Bool → Option (Bool)
  | 0, _, _ => none
  | k + 1, x5, x59 => if x59 = true then (some false) else ((caltok_Text.f k x5).bind fun t250 => (if (t250.size : Int) < 2 then (some false) else (if 0 ≤ (wrap64 ((t250.size : Int) - 1)) then (if (wrap64 ((t250.size : Int) - 1)) < (t250.size : Int) then (if x5 > 0 then (if (((bt t250 (wrap64 ((t250.size : Int) - 1))) == 100) == ((Int.tmod x5 1440) == 0)) = true then (if (Int.tmod x5 1440) = 0 then (if (((bt t250 (wrap64 ((t250.size : Int) - 1))) == 104) == false) = true then (if x5 = 0 then (some (((bt t250 (wrap64 ((t250.size : Int) - 1))) == 109) == true)) else (some (((bt t250 (wrap64 ((t250.size : Int) - 1))) == 109) == ((Int.tmod x5 60) != 0)))) else (some false)) else (if (((bt t250 (wrap64 ((t250.size : Int) - 1))) == 104) == ((Int.tmod x5 60) == 0)) = true then (if x5 = 0 then (some (((bt t250 (wrap64 ((t250.size : Int) - 1))) == 109) == true)) else (some (((bt t250 (wrap64 ((t250.size : Int) - 1))) == 109) == ((Int.tmod x5 60) != 0)))) else (some false))) else (some false)) else (if (((bt t250 (wrap64 ((t250.size : Int) - 1))) == 100) == false) = true then (if (Int.tmod x5 1440) = 0 then (if (((bt t250 (wrap64 ((t250.size : Int) - 1))) == 104) == false) = true then (if x5 = 0 then (some (((bt t250 (wrap64 ((t250.size : Int) - 1))) == 109) == true)) else (some (((bt t250 (wrap64 ((t250.size : Int) - 1))) == 109) == ((Int.tmod x5 60) != 0)))) else (some false)) else (if (((bt t250 (wrap64 ((t250.size : Int) - 1))) == 104) == ((Int.tmod x5 60) == 0)) = true then (if x5 = 0 then (some (((bt t250 (wrap64 ((t250.size : Int) - 1))) == 109) == true)) else (some (((bt t250 (wrap64 ((t250.size : Int) - 1))) == 109) == ((Int.tmod x5 60) != 0)))) else (some false))) else (some false))) else (none)) else (none))))
def erewhilelaw33_CaltokSums.f (k : Nat) (a0 : Int) (a1 : Int) : Option (Bool) := (erewhilelaw33_awake.f k).bind fun t240 => (if t240 = true then ((caltok_Text.f k (wrap64 (Int.tmod a0 536870912))).bind fun t241 => ((caltok_Minutes.f t241).bind fun bt242 => ((caltok_Text.f k (wrap64 (Int.tmod a1 536870912))).bind fun t244 => ((caltok_Minutes.f t244).bind fun bt245 => ((caltok_Text.f k (wrap64 ((wrap64 (Int.tmod a0 536870912)) + (wrap64 (Int.tmod a1 536870912))))).bind fun t247 => ((caltok_Minutes.f t247).bind fun bt248 => (if bt242.2 = true then (if bt245.2 = true then (if bt248.2 = true then (erewhilelaw33_CaltokSums.j0 k (wrap64 (Int.tmod a0 536870912)) ((wrap64 (bt242.1 + bt245.1)) != bt248.1)) else (erewhilelaw33_CaltokSums.j0 k (wrap64 (Int.tmod a0 536870912)) true)) else (erewhilelaw33_CaltokSums.j0 k (wrap64 (Int.tmod a0 536870912)) true)) else (erewhilelaw33_CaltokSums.j0 k (wrap64 (Int.tmod a0 536870912)) true)))))))) else (some false))
theorem erewhilelaw33_CaltokSums.bbt {a b : Bool} (h : (a == b) = true) (hb : b = true) : a = true := by cases a <;> cases b <;> simp_all
theorem erewhilelaw33_CaltokSums.bbtf {a b : Bool} (h : (a == b) = true) (hb : b = false) : a = false := by cases a <;> cases b <;> simp_all
theorem erewhilelaw33_CaltokSums.bbf {a b : Bool} (h : (a == b) = false) (hb : b = true) : a = false := by cases a <;> cases b <;> simp_all
theorem erewhilelaw33_CaltokSums.bbff {a b : Bool} (h : (a == b) = false) (hb : b = false) : a = true := by cases a <;> cases b <;> simp_all
theorem erewhilelaw33_CaltokSums.mono_l : ∀ k, (∀ y0 y1, LeO (erewhilelaw33_CaltokSums.j0 k y0 y1) (erewhilelaw33_CaltokSums.j0 (k + 1) y0 y1))
  | 0 => fun _ _ r h => by simp [erewhilelaw33_CaltokSums.j0] at h
  | k + 1 => by
    have ih0 := erewhilelaw33_CaltokSums.mono_l k
    · intro y0 y1
      unfold erewhilelaw33_CaltokSums.j0
      repeat' first
      | (with_reducible exact ih0 _ _)
      | (with_reducible exact caltok_Text.mono _ _)
      | (with_reducible exact erewhilelaw33_awake.mono _)
      | (with_reducible exact LeO.refl _)
      | (with_reducible exact LeO.none _)
      | (with_reducible refine LeO.ite ?_ ?_)
      | (with_reducible refine LeO.bind ?_ (fun _ => ?_))
      | exact ih0 _ _
      | exact caltok_Text.mono _ _
      | exact erewhilelaw33_awake.mono _
      | exact LeO.none _
      | refine LeO.ite ?_ ?_
      | refine LeO.bind ?_ (fun _ => ?_)
theorem erewhilelaw33_CaltokSums.mono : ∀ a0 a1 k, LeO (erewhilelaw33_CaltokSums.f k a0 a1) (erewhilelaw33_CaltokSums.f (k + 1) a0 a1) := by
  intro a0 a1 k
  have ih0 := erewhilelaw33_CaltokSums.mono_l k
  unfold erewhilelaw33_CaltokSums.f
  repeat' first
      | (with_reducible exact ih0 _ _)
      | (with_reducible exact caltok_Text.mono _ _)
      | (with_reducible exact erewhilelaw33_awake.mono _)
      | (with_reducible exact LeO.refl _)
      | (with_reducible exact LeO.none _)
      | (with_reducible refine LeO.ite ?_ ?_)
      | (with_reducible refine LeO.bind ?_ (fun _ => ?_))
      | exact ih0 _ _
      | exact caltok_Text.mono _ _
      | exact erewhilelaw33_awake.mono _
      | exact LeO.none _
      | refine LeO.ite ?_ ?_
      | refine LeO.bind ?_ (fun _ => ?_)
set_option maxHeartbeats 8000000 in
set_option maxRecDepth 100000 in
theorem erewhilelaw33_CaltokSums.calls (k : Nat) (a0 : Int) (a1 : Int) (r : Bool) (w : World) (hU : Units w) (hT : Tab w) (h : erewhilelaw33_CaltokSums.f k a0 a1 = some r) :
    Calls Tryd.prog 7 #[.int .u32 a0, .int .u32 a1] w fun e w' => e = .returned (.bool r) ∧ Below w.heap.size w w' := by
  have HB := Aside0.mk (Below.refl w.heap.size w)
  have HT := Aside0.mk hT
  clear hT
  have HU := Aside0.mk hU
  clear hU
  have H : ((erewhilelaw33_awake.f k).bind fun t240 => (if t240 = true then ((caltok_Text.f k (wrap64 (Int.tmod a0 536870912))).bind fun t241 => ((caltok_Minutes.f t241).bind fun bt242 => ((caltok_Text.f k (wrap64 (Int.tmod a1 536870912))).bind fun t244 => ((caltok_Minutes.f t244).bind fun bt245 => ((caltok_Text.f k (wrap64 ((wrap64 (Int.tmod a0 536870912)) + (wrap64 (Int.tmod a1 536870912))))).bind fun t247 => ((caltok_Minutes.f t247).bind fun bt248 => (if bt242.2 = true then (if bt245.2 = true then (if bt248.2 = true then (erewhilelaw33_CaltokSums.j0 k (wrap64 (Int.tmod a0 536870912)) ((wrap64 (bt242.1 + bt245.1)) != bt248.1)) else (erewhilelaw33_CaltokSums.j0 k (wrap64 (Int.tmod a0 536870912)) true)) else (erewhilelaw33_CaltokSums.j0 k (wrap64 (Int.tmod a0 536870912)) true)) else (erewhilelaw33_CaltokSums.j0 k (wrap64 (Int.tmod a0 536870912)) true)))))))) else (some false))) = some r := h
  clear h
  replace H := Option.bind_eq_some_iff.mp H
  obtain ⟨t240, A30, H⟩ := H
  replace H : (if t240 = true then ((caltok_Text.f k (wrap64 (Int.tmod a0 536870912))).bind fun t241 => ((caltok_Minutes.f t241).bind fun bt242 => ((caltok_Text.f k (wrap64 (Int.tmod a1 536870912))).bind fun t244 => ((caltok_Minutes.f t244).bind fun bt245 => ((caltok_Text.f k (wrap64 ((wrap64 (Int.tmod a0 536870912)) + (wrap64 (Int.tmod a1 536870912))))).bind fun t247 => ((caltok_Minutes.f t247).bind fun bt248 => (if bt242.2 = true then (if bt245.2 = true then (if bt248.2 = true then (erewhilelaw33_CaltokSums.j0 k (wrap64 (Int.tmod a0 536870912)) ((wrap64 (bt242.1 + bt245.1)) != bt248.1)) else (erewhilelaw33_CaltokSums.j0 k (wrap64 (Int.tmod a0 536870912)) true)) else (erewhilelaw33_CaltokSums.j0 k (wrap64 (Int.tmod a0 536870912)) true)) else (erewhilelaw33_CaltokSums.j0 k (wrap64 (Int.tmod a0 536870912)) true)))))))) else (some false)) = some r := H
  have A3 := Aside0.mk A30
  clear A30
  by_cases c4 : t240 = true
  · subst c4
    have H1 : ((caltok_Text.f k (wrap64 (Int.tmod a0 536870912))).bind fun t241 => ((caltok_Minutes.f t241).bind fun bt242 => ((caltok_Text.f k (wrap64 (Int.tmod a1 536870912))).bind fun t244 => ((caltok_Minutes.f t244).bind fun bt245 => ((caltok_Text.f k (wrap64 ((wrap64 (Int.tmod a0 536870912)) + (wrap64 (Int.tmod a1 536870912))))).bind fun t247 => ((caltok_Minutes.f t247).bind fun bt248 => (if bt242.2 = true then (if bt245.2 = true then (if bt248.2 = true then (erewhilelaw33_CaltokSums.j0 k (wrap64 (Int.tmod a0 536870912)) ((wrap64 (bt242.1 + bt245.1)) != bt248.1)) else (erewhilelaw33_CaltokSums.j0 k (wrap64 (Int.tmod a0 536870912)) true)) else (erewhilelaw33_CaltokSums.j0 k (wrap64 (Int.tmod a0 536870912)) true)) else (erewhilelaw33_CaltokSums.j0 k (wrap64 (Int.tmod a0 536870912)) true)))))))) = some r := by rw [if_pos rfl] at H; exact H
    clear H
    have H := H1
    clear H1
    replace H := Option.bind_eq_some_iff.mp H
    obtain ⟨t241, A50, H⟩ := H
    replace H : ((caltok_Minutes.f t241).bind fun bt242 => ((caltok_Text.f k (wrap64 (Int.tmod a1 536870912))).bind fun t244 => ((caltok_Minutes.f t244).bind fun bt245 => ((caltok_Text.f k (wrap64 ((wrap64 (Int.tmod a0 536870912)) + (wrap64 (Int.tmod a1 536870912))))).bind fun t247 => ((caltok_Minutes.f t247).bind fun bt248 => (if bt242.2 = true then (if bt245.2 = true then (if bt248.2 = true then (erewhilelaw33_CaltokSums.j0 k (wrap64 (Int.tmod a0 536870912)) ((wrap64 (bt242.1 + bt245.1)) != bt248.1)) else (erewhilelaw33_CaltokSums.j0 k (wrap64 (Int.tmod a0 536870912)) true)) else (erewhilelaw33_CaltokSums.j0 k (wrap64 (Int.tmod a0 536870912)) true)) else (erewhilelaw33_CaltokSums.j0 k (wrap64 (Int.tmod a0 536870912)) true))))))) = some r := H
    have A5 := Aside0.mk A50
    clear A50
    replace H := Option.bind_eq_some_iff.mp H
    obtain ⟨⟨t242, t243⟩, A60, H⟩ := H
    replace H : ((caltok_Text.f k (wrap64 (Int.tmod a1 536870912))).bind fun t244 => ((caltok_Minutes.f t244).bind fun bt245 => ((caltok_Text.f k (wrap64 ((wrap64 (Int.tmod a0 536870912)) + (wrap64 (Int.tmod a1 536870912))))).bind fun t247 => ((caltok_Minutes.f t247).bind fun bt248 => (if t243 = true then (if bt245.2 = true then (if bt248.2 = true then (erewhilelaw33_CaltokSums.j0 k (wrap64 (Int.tmod a0 536870912)) ((wrap64 (t242 + bt245.1)) != bt248.1)) else (erewhilelaw33_CaltokSums.j0 k (wrap64 (Int.tmod a0 536870912)) true)) else (erewhilelaw33_CaltokSums.j0 k (wrap64 (Int.tmod a0 536870912)) true)) else (erewhilelaw33_CaltokSums.j0 k (wrap64 (Int.tmod a0 536870912)) true)))))) = some r := H
    have A6 := Aside0.mk A60
    clear A60
    replace H := Option.bind_eq_some_iff.mp H
    obtain ⟨t244, A70, H⟩ := H
    replace H : ((caltok_Minutes.f t244).bind fun bt245 => ((caltok_Text.f k (wrap64 ((wrap64 (Int.tmod a0 536870912)) + (wrap64 (Int.tmod a1 536870912))))).bind fun t247 => ((caltok_Minutes.f t247).bind fun bt248 => (if t243 = true then (if bt245.2 = true then (if bt248.2 = true then (erewhilelaw33_CaltokSums.j0 k (wrap64 (Int.tmod a0 536870912)) ((wrap64 (t242 + bt245.1)) != bt248.1)) else (erewhilelaw33_CaltokSums.j0 k (wrap64 (Int.tmod a0 536870912)) true)) else (erewhilelaw33_CaltokSums.j0 k (wrap64 (Int.tmod a0 536870912)) true)) else (erewhilelaw33_CaltokSums.j0 k (wrap64 (Int.tmod a0 536870912)) true))))) = some r := H
    have A7 := Aside0.mk A70
    clear A70
    replace H := Option.bind_eq_some_iff.mp H
    obtain ⟨⟨t245, t246⟩, A80, H⟩ := H
    replace H : ((caltok_Text.f k (wrap64 ((wrap64 (Int.tmod a0 536870912)) + (wrap64 (Int.tmod a1 536870912))))).bind fun t247 => ((caltok_Minutes.f t247).bind fun bt248 => (if t243 = true then (if t246 = true then (if bt248.2 = true then (erewhilelaw33_CaltokSums.j0 k (wrap64 (Int.tmod a0 536870912)) ((wrap64 (t242 + t245)) != bt248.1)) else (erewhilelaw33_CaltokSums.j0 k (wrap64 (Int.tmod a0 536870912)) true)) else (erewhilelaw33_CaltokSums.j0 k (wrap64 (Int.tmod a0 536870912)) true)) else (erewhilelaw33_CaltokSums.j0 k (wrap64 (Int.tmod a0 536870912)) true)))) = some r := H
    have A8 := Aside0.mk A80
    clear A80
    replace H := Option.bind_eq_some_iff.mp H
    obtain ⟨t247, A90, H⟩ := H
    replace H : ((caltok_Minutes.f t247).bind fun bt248 => (if t243 = true then (if t246 = true then (if bt248.2 = true then (erewhilelaw33_CaltokSums.j0 k (wrap64 (Int.tmod a0 536870912)) ((wrap64 (t242 + t245)) != bt248.1)) else (erewhilelaw33_CaltokSums.j0 k (wrap64 (Int.tmod a0 536870912)) true)) else (erewhilelaw33_CaltokSums.j0 k (wrap64 (Int.tmod a0 536870912)) true)) else (erewhilelaw33_CaltokSums.j0 k (wrap64 (Int.tmod a0 536870912)) true))) = some r := H
    have A9 := Aside0.mk A90
    clear A90
    replace H := Option.bind_eq_some_iff.mp H
    obtain ⟨⟨t248, t249⟩, A100, H⟩ := H
    replace H : (if t243 = true then (if t246 = true then (if t249 = true then (erewhilelaw33_CaltokSums.j0 k (wrap64 (Int.tmod a0 536870912)) ((wrap64 (t242 + t245)) != t248)) else (erewhilelaw33_CaltokSums.j0 k (wrap64 (Int.tmod a0 536870912)) true)) else (erewhilelaw33_CaltokSums.j0 k (wrap64 (Int.tmod a0 536870912)) true)) else (erewhilelaw33_CaltokSums.j0 k (wrap64 (Int.tmod a0 536870912)) true)) = some r := H
    have A10 := Aside0.mk A100
    clear A100
    have HC11 := Aside0.mk H
    clear H
    go_enter Tryd.func7, Tryd.ntmps7
    go_upto_region 7 with (first | ((with_reducible refine gate_callee (f := 9) rfl ?_); refine goesL_ (some 15) rfl rfl Tryd.func9 (by kernel_rfl) rfl #[] rfl (by (try simp only [List.map_toArray, List.map_cons, List.map_nil]); first | done | rfl | (simp only [List.length_drop, List.length_take]; rfl)) ?_; (with_reducible refine (erewhilelaw33_awake.calls k  true _ ?sideU A3.out).mono ?_); (case sideU => exact Units.below HU.out (by repeat (first | (with_reducible first | exact HB.out | apply below_alloc | apply pw_below_drewN | apply below_drew1) | exact HB.out))); rintro e w12 ⟨rfl, hb⟩; refine ⟨_, rfl, ?_⟩; have n0_ := Aside0.mk (below_step (by repeat (first | (with_reducible first | exact HB.out | apply below_alloc | apply pw_below_drewN | apply below_drew1) | exact HB.out)) hb); clear HB; have HB := n0_; clear n0_; (try clear hb); (try clear hb2); (try clear hk); (try clear hi)) | ((with_reducible refine gate_callee (f := 13) rfl ?_); refine goesL_ (some 25) rfl rfl Tryd.func13 (by kernel_rfl) rfl #[.int .i64 (wrap64 (Int.tmod a0 536870912))] rfl (by (try simp only [List.map_toArray, List.map_cons, List.map_nil]); first | done | rfl | (simp only [List.length_drop, List.length_take]; rfl)) ?_; (with_reducible refine (caltok_Text.calls k (wrap64 (Int.tmod a0 536870912)) t241 _ ?sideT A5.out).mono ?_); (case sideT => exact Tab.below HT.out (by repeat (first | (with_reducible first | exact HB.out | apply below_alloc | apply pw_below_drewN | apply below_drew1) | exact HB.out))); rintro e w13 ⟨rfl, hb⟩; refine ⟨_, rfl, ?_⟩; have n0_ := Aside0.mk (below_step (by repeat (first | (with_reducible first | exact HB.out | apply below_alloc | apply pw_below_drewN | apply below_drew1) | exact HB.out)) hb); clear HB; have HB := n0_; clear n0_; (try clear hb); (try clear hb2); (try clear hk); (try clear hi)) | ((with_reducible refine gate_callee (f := 14) rfl ?_); refine goesL_ (some 26) rfl rfl Tryd.func14 (by kernel_rfl) rfl #[.string t241] rfl (by (try simp only [List.map_toArray, List.map_cons, List.map_nil]); first | done | rfl | (simp only [List.length_drop, List.length_take]; rfl)) ?_; (with_reducible refine (caltok_Minutes.calls t241 t242 t243 _ ?sideU A6.out).mono ?_); (case sideU => exact Units.below HU.out (by repeat (first | (with_reducible first | exact HB.out | apply below_alloc | apply pw_below_drewN | apply below_drew1) | exact HB.out))); rintro e w' ⟨rfl, ⟨nd, rfl⟩⟩; refine ⟨_, rfl, ?_⟩) | ((with_reducible refine gate_callee (f := 13) rfl ?_); refine goesL_ (some 31) rfl rfl Tryd.func13 (by kernel_rfl) rfl #[.int .i64 (wrap64 (Int.tmod a1 536870912))] rfl (by (try simp only [List.map_toArray, List.map_cons, List.map_nil]); first | done | rfl | (simp only [List.length_drop, List.length_take]; rfl)) ?_; (with_reducible refine (caltok_Text.calls k (wrap64 (Int.tmod a1 536870912)) t244 _ ?sideT A7.out).mono ?_); (case sideT => exact Tab.below HT.out (by repeat (first | (with_reducible first | exact HB.out | apply below_alloc | apply pw_below_drewN | apply below_drew1) | exact HB.out))); rintro e w14 ⟨rfl, hb⟩; refine ⟨_, rfl, ?_⟩; have n0_ := Aside0.mk (below_step (by repeat (first | (with_reducible first | exact HB.out | apply below_alloc | apply pw_below_drewN | apply below_drew1) | exact HB.out)) hb); clear HB; have HB := n0_; clear n0_; (try clear hb); (try clear hb2); (try clear hk); (try clear hi)) | ((with_reducible refine gate_callee (f := 14) rfl ?_); refine goesL_ (some 32) rfl rfl Tryd.func14 (by kernel_rfl) rfl #[.string t244] rfl (by (try simp only [List.map_toArray, List.map_cons, List.map_nil]); first | done | rfl | (simp only [List.length_drop, List.length_take]; rfl)) ?_; (with_reducible refine (caltok_Minutes.calls t244 t245 t246 _ ?sideU A8.out).mono ?_); (case sideU => exact Units.below HU.out (by repeat (first | (with_reducible first | exact HB.out | apply below_alloc | apply pw_below_drewN | apply below_drew1) | exact HB.out))); rintro e w' ⟨rfl, ⟨nd, rfl⟩⟩; refine ⟨_, rfl, ?_⟩) | ((with_reducible refine gate_callee (f := 13) rfl ?_); refine goesL_ (some 39) rfl rfl Tryd.func13 (by kernel_rfl) rfl #[.int .i64 (wrap64 ((wrap64 (Int.tmod a0 536870912)) + (wrap64 (Int.tmod a1 536870912))))] rfl (by (try simp only [List.map_toArray, List.map_cons, List.map_nil]); first | done | rfl | (simp only [List.length_drop, List.length_take]; rfl)) ?_; (with_reducible refine (caltok_Text.calls k (wrap64 ((wrap64 (Int.tmod a0 536870912)) + (wrap64 (Int.tmod a1 536870912)))) t247 _ ?sideT A9.out).mono ?_); (case sideT => exact Tab.below HT.out (by repeat (first | (with_reducible first | exact HB.out | apply below_alloc | apply pw_below_drewN | apply below_drew1) | exact HB.out))); rintro e w15 ⟨rfl, hb⟩; refine ⟨_, rfl, ?_⟩; have n0_ := Aside0.mk (below_step (by repeat (first | (with_reducible first | exact HB.out | apply below_alloc | apply pw_below_drewN | apply below_drew1) | exact HB.out)) hb); clear HB; have HB := n0_; clear n0_; (try clear hb); (try clear hb2); (try clear hk); (try clear hi)) | ((with_reducible refine gate_callee (f := 14) rfl ?_); refine goesL_ (some 40) rfl rfl Tryd.func14 (by kernel_rfl) rfl #[.string t247] rfl (by (try simp only [List.map_toArray, List.map_cons, List.map_nil]); first | done | rfl | (simp only [List.length_drop, List.length_take]; rfl)) ?_; (with_reducible refine (caltok_Minutes.calls t247 t248 t249 _ ?sideU A10.out).mono ?_); (case sideU => exact Units.below HU.out (by repeat (first | (with_reducible first | exact HB.out | apply below_alloc | apply pw_below_drewN | apply below_drew1) | exact HB.out))); rintro e w' ⟨rfl, ⟨nd, rfl⟩⟩; refine ⟨_, rfl, ?_⟩))
    (try simp only [Act.put, List.setIfInBounds_toArray, List.set_cons_zero, List.set_cons_succ])
    go_cut [59] (fun v59 wc => ∃ (kq : Nat) (x59_10 : Bool), v59 = .bool x59_10 ∧ Aside0 (erewhilelaw33_CaltokSums.j0 kq (wrap64 (Int.tmod a0 536870912)) x59_10 = some r) ∧ Aside0 (kq ≤ k) ∧ Aside0 (Below w.heap.size w wc))
    case first =>
      have H := HC11.out
      clear HC11
      by_cases c16 : t243 = true
      · subst c16
        have H1 : (if t246 = true then (if t249 = true then (erewhilelaw33_CaltokSums.j0 k (wrap64 (Int.tmod a0 536870912)) ((wrap64 (t242 + t245)) != t248)) else (erewhilelaw33_CaltokSums.j0 k (wrap64 (Int.tmod a0 536870912)) true)) else (erewhilelaw33_CaltokSums.j0 k (wrap64 (Int.tmod a0 536870912)) true)) = some r := by rw [if_pos rfl] at H; exact H
        clear H
        have H := H1
        clear H1
        by_cases c17 : t246 = true
        · subst c17
          have H1 : (if t249 = true then (erewhilelaw33_CaltokSums.j0 k (wrap64 (Int.tmod a0 536870912)) ((wrap64 (t242 + t245)) != t248)) else (erewhilelaw33_CaltokSums.j0 k (wrap64 (Int.tmod a0 536870912)) true)) = some r := by rw [if_pos rfl] at H; exact H
          clear H
          have H := H1
          clear H1
          by_cases c18 : t249 = true
          · subst c18
            have H1 : (erewhilelaw33_CaltokSums.j0 k (wrap64 (Int.tmod a0 536870912)) ((wrap64 (t242 + t245)) != t248)) = some r := by rw [if_pos rfl] at H; exact H
            clear H
            have H := H1
            clear H1
            have H' := Aside0.mk H
            clear H
            go_wp2
            go_meet
            case rel => exact ⟨_, (((wrap64 (t242 + t245)) != t248)), (by first | rfl | (simp; done) | (simp [*]; done)), H', ⟨by first | omega | exact Nat.le_refl _⟩, ⟨by repeat (first | (with_reducible first | exact HB.out | apply below_alloc | apply pw_below_drewN | apply below_drew1) | exact HB.out)⟩⟩
          · replace c18 := Bool.eq_false_iff.mpr c18
            subst c18
            have H1 : (erewhilelaw33_CaltokSums.j0 k (wrap64 (Int.tmod a0 536870912)) true) = some r := by rw [if_neg (show ¬ (false = true) by decide)] at H; exact H
            clear H
            have H := H1
            clear H1
            have H' := Aside0.mk H
            clear H
            go_wp2
            go_meet
            case rel => exact ⟨_, (true), (by first | rfl | (simp; done) | (simp [*]; done)), H', ⟨by first | omega | exact Nat.le_refl _⟩, ⟨by repeat (first | (with_reducible first | exact HB.out | apply below_alloc | apply pw_below_drewN | apply below_drew1) | exact HB.out)⟩⟩
        · replace c17 := Bool.eq_false_iff.mpr c17
          subst c17
          have H1 : (erewhilelaw33_CaltokSums.j0 k (wrap64 (Int.tmod a0 536870912)) true) = some r := by rw [if_neg (show ¬ (false = true) by decide)] at H; exact H
          clear H
          have H := H1
          clear H1
          have H' := Aside0.mk H
          clear H
          go_wp2
          go_meet
          case rel => exact ⟨_, (true), (by first | rfl | (simp; done) | (simp [*]; done)), H', ⟨by first | omega | exact Nat.le_refl _⟩, ⟨by repeat (first | (with_reducible first | exact HB.out | apply below_alloc | apply pw_below_drewN | apply below_drew1) | exact HB.out)⟩⟩
      · replace c16 := Bool.eq_false_iff.mpr c16
        subst c16
        have H1 : (erewhilelaw33_CaltokSums.j0 k (wrap64 (Int.tmod a0 536870912)) true) = some r := by rw [if_neg (show ¬ (false = true) by decide)] at H; exact H
        clear H
        have H := H1
        clear H1
        have H' := Aside0.mk H
        clear H
        go_wp2
        go_meet
        case rel => exact ⟨_, (true), (by first | rfl | (simp; done) | (simp [*]; done)), H', ⟨by first | omega | exact Nat.le_refl _⟩, ⟨by repeat (first | (with_reducible first | exact HB.out | apply below_alloc | apply pw_below_drewN | apply below_drew1) | exact HB.out)⟩⟩
    case rest =>
      clear HC11
      try clear c1
      try clear p2
      try clear c4
      try clear p6
      try clear c7
      try clear c9
      try clear c13
      try clear c14
      try clear c16
      try clear c17
      try clear c18
      obtain ⟨kq, x59_10, rfl, HA, HJ10, HB⟩ := hcut
      cases kq with
      | zero => exact absurd HA.out (by simp [erewhilelaw33_CaltokSums.j0])
      | succ kj10 =>
        have H := HA.out
        clear HA
        simp only [erewhilelaw33_CaltokSums.j0] at H
        by_cases c19 : x59_10 = true
        · subst c19
          have H1 : (some false) = some r := by rw [if_pos rfl] at H; exact H
          clear H
          have H := H1
          clear H1
          obtain rfl := Option.some.inj H
          go_wp2
          go_ret
          exact ⟨by first | rfl | (simp [errW_none, errW_some] <;> rfl) | (simp [*, errW_none, errW_some] <;> rfl), by repeat (first | (with_reducible first | exact HB.out | apply below_alloc | apply pw_below_drewN | apply below_drew1) | exact HB.out)⟩
        · replace c19 := Bool.eq_false_iff.mpr c19
          subst c19
          have H1 : ((caltok_Text.f kj10 (wrap64 (Int.tmod a0 536870912))).bind fun t250 => (if (t250.size : Int) < 2 then (some false) else (if 0 ≤ (wrap64 ((t250.size : Int) - 1)) then (if (wrap64 ((t250.size : Int) - 1)) < (t250.size : Int) then (if (wrap64 (Int.tmod a0 536870912)) > 0 then (if (((bt t250 (wrap64 ((t250.size : Int) - 1))) == 100) == ((Int.tmod (wrap64 (Int.tmod a0 536870912)) 1440) == 0)) = true then (if (Int.tmod (wrap64 (Int.tmod a0 536870912)) 1440) = 0 then (if (((bt t250 (wrap64 ((t250.size : Int) - 1))) == 104) == false) = true then (if (wrap64 (Int.tmod a0 536870912)) = 0 then (some (((bt t250 (wrap64 ((t250.size : Int) - 1))) == 109) == true)) else (some (((bt t250 (wrap64 ((t250.size : Int) - 1))) == 109) == ((Int.tmod (wrap64 (Int.tmod a0 536870912)) 60) != 0)))) else (some false)) else (if (((bt t250 (wrap64 ((t250.size : Int) - 1))) == 104) == ((Int.tmod (wrap64 (Int.tmod a0 536870912)) 60) == 0)) = true then (if (wrap64 (Int.tmod a0 536870912)) = 0 then (some (((bt t250 (wrap64 ((t250.size : Int) - 1))) == 109) == true)) else (some (((bt t250 (wrap64 ((t250.size : Int) - 1))) == 109) == ((Int.tmod (wrap64 (Int.tmod a0 536870912)) 60) != 0)))) else (some false))) else (some false)) else (if (((bt t250 (wrap64 ((t250.size : Int) - 1))) == 100) == false) = true then (if (Int.tmod (wrap64 (Int.tmod a0 536870912)) 1440) = 0 then (if (((bt t250 (wrap64 ((t250.size : Int) - 1))) == 104) == false) = true then (if (wrap64 (Int.tmod a0 536870912)) = 0 then (some (((bt t250 (wrap64 ((t250.size : Int) - 1))) == 109) == true)) else (some (((bt t250 (wrap64 ((t250.size : Int) - 1))) == 109) == ((Int.tmod (wrap64 (Int.tmod a0 536870912)) 60) != 0)))) else (some false)) else (if (((bt t250 (wrap64 ((t250.size : Int) - 1))) == 104) == ((Int.tmod (wrap64 (Int.tmod a0 536870912)) 60) == 0)) = true then (if (wrap64 (Int.tmod a0 536870912)) = 0 then (some (((bt t250 (wrap64 ((t250.size : Int) - 1))) == 109) == true)) else (some (((bt t250 (wrap64 ((t250.size : Int) - 1))) == 109) == ((Int.tmod (wrap64 (Int.tmod a0 536870912)) 60) != 0)))) else (some false))) else (some false))) else (none)) else (none)))) = some r := by rw [if_neg (show ¬ (false = true) by decide)] at H; exact H
          clear H
          have H := H1
          clear H1
          replace H := Option.bind_eq_some_iff.mp H
          obtain ⟨t250, A200, H⟩ := H
          replace H : (if (t250.size : Int) < 2 then (some false) else (if 0 ≤ (wrap64 ((t250.size : Int) - 1)) then (if (wrap64 ((t250.size : Int) - 1)) < (t250.size : Int) then (if (wrap64 (Int.tmod a0 536870912)) > 0 then (if (((bt t250 (wrap64 ((t250.size : Int) - 1))) == 100) == ((Int.tmod (wrap64 (Int.tmod a0 536870912)) 1440) == 0)) = true then (if (Int.tmod (wrap64 (Int.tmod a0 536870912)) 1440) = 0 then (if (((bt t250 (wrap64 ((t250.size : Int) - 1))) == 104) == false) = true then (if (wrap64 (Int.tmod a0 536870912)) = 0 then (some (((bt t250 (wrap64 ((t250.size : Int) - 1))) == 109) == true)) else (some (((bt t250 (wrap64 ((t250.size : Int) - 1))) == 109) == ((Int.tmod (wrap64 (Int.tmod a0 536870912)) 60) != 0)))) else (some false)) else (if (((bt t250 (wrap64 ((t250.size : Int) - 1))) == 104) == ((Int.tmod (wrap64 (Int.tmod a0 536870912)) 60) == 0)) = true then (if (wrap64 (Int.tmod a0 536870912)) = 0 then (some (((bt t250 (wrap64 ((t250.size : Int) - 1))) == 109) == true)) else (some (((bt t250 (wrap64 ((t250.size : Int) - 1))) == 109) == ((Int.tmod (wrap64 (Int.tmod a0 536870912)) 60) != 0)))) else (some false))) else (some false)) else (if (((bt t250 (wrap64 ((t250.size : Int) - 1))) == 100) == false) = true then (if (Int.tmod (wrap64 (Int.tmod a0 536870912)) 1440) = 0 then (if (((bt t250 (wrap64 ((t250.size : Int) - 1))) == 104) == false) = true then (if (wrap64 (Int.tmod a0 536870912)) = 0 then (some (((bt t250 (wrap64 ((t250.size : Int) - 1))) == 109) == true)) else (some (((bt t250 (wrap64 ((t250.size : Int) - 1))) == 109) == ((Int.tmod (wrap64 (Int.tmod a0 536870912)) 60) != 0)))) else (some false)) else (if (((bt t250 (wrap64 ((t250.size : Int) - 1))) == 104) == ((Int.tmod (wrap64 (Int.tmod a0 536870912)) 60) == 0)) = true then (if (wrap64 (Int.tmod a0 536870912)) = 0 then (some (((bt t250 (wrap64 ((t250.size : Int) - 1))) == 109) == true)) else (some (((bt t250 (wrap64 ((t250.size : Int) - 1))) == 109) == ((Int.tmod (wrap64 (Int.tmod a0 536870912)) 60) != 0)))) else (some false))) else (some false))) else (none)) else (none))) = some r := H
          have A20 := Aside0.mk A200
          clear A200
          by_cases c21 : (t250.size : Int) < 2
          · rw [if_pos c21] at H
            have c21b0 : decide ((t250.size : Int) < 2) = true := decide_eq_true c21
            have c21b1 : decide (t250.size < 2) = true := decide_eq_true (by omega)
            clear c21
            obtain rfl := Option.some.inj H
            go_wp2_with (first | ((with_reducible refine gate_callee (f := 13) rfl ?_); refine goesL_ (some 61) rfl rfl Tryd.func13 (by kernel_rfl) rfl #[.int .i64 (wrap64 (Int.tmod a0 536870912))] rfl (by (try simp only [List.map_toArray, List.map_cons, List.map_nil]); first | done | rfl | (simp only [List.length_drop, List.length_take]; rfl)) ?_; (with_reducible refine (caltok_Text.calls kj10 (wrap64 (Int.tmod a0 536870912)) t250 _ ?sideT A20.out).mono ?_); (case sideT => exact Tab.below HT.out (by repeat (first | (with_reducible first | exact HB.out | apply below_alloc | apply pw_below_drewN | apply below_drew1) | exact HB.out))); rintro e w22 ⟨rfl, hb⟩; refine ⟨_, rfl, ?_⟩; have n0_ := Aside0.mk (below_step (by repeat (first | (with_reducible first | exact HB.out | apply below_alloc | apply pw_below_drewN | apply below_drew1) | exact HB.out)) hb); clear HB; have HB := n0_; clear n0_; (try clear hb); (try clear hb2); (try clear hk); (try clear hi)))
            go_ret
            exact ⟨by first | rfl | (simp [errW_none, errW_some] <;> rfl) | (simp [*, errW_none, errW_some] <;> rfl), by repeat (first | (with_reducible first | exact HB.out | apply below_alloc | apply pw_below_drewN | apply below_drew1) | exact HB.out)⟩
          · rw [if_neg c21] at H
            have c21b0 : decide ((t250.size : Int) < 2) = false := decide_eq_false c21
            have c21b1 : decide (t250.size < 2) = false := decide_eq_false (by omega)
            clear c21
            obtain ⟨ji23, hji23⟩ : ∃ j_ : Int, (wrap64 ((t250.size : Int) - 1)) = j_ := ⟨_, rfl⟩
            replace H : (if 0 ≤ (ji23) then (if (ji23) < (t250.size : Int) then (if (wrap64 (Int.tmod a0 536870912)) > 0 then (if (((bt t250 (ji23)) == 100) == ((Int.tmod (wrap64 (Int.tmod a0 536870912)) 1440) == 0)) = true then (if (Int.tmod (wrap64 (Int.tmod a0 536870912)) 1440) = 0 then (if (((bt t250 (ji23)) == 104) == false) = true then (if (wrap64 (Int.tmod a0 536870912)) = 0 then (some (((bt t250 (ji23)) == 109) == true)) else (some (((bt t250 (ji23)) == 109) == ((Int.tmod (wrap64 (Int.tmod a0 536870912)) 60) != 0)))) else (some false)) else (if (((bt t250 (ji23)) == 104) == ((Int.tmod (wrap64 (Int.tmod a0 536870912)) 60) == 0)) = true then (if (wrap64 (Int.tmod a0 536870912)) = 0 then (some (((bt t250 (ji23)) == 109) == true)) else (some (((bt t250 (ji23)) == 109) == ((Int.tmod (wrap64 (Int.tmod a0 536870912)) 60) != 0)))) else (some false))) else (some false)) else (if (((bt t250 (ji23)) == 100) == false) = true then (if (Int.tmod (wrap64 (Int.tmod a0 536870912)) 1440) = 0 then (if (((bt t250 (ji23)) == 104) == false) = true then (if (wrap64 (Int.tmod a0 536870912)) = 0 then (some (((bt t250 (ji23)) == 109) == true)) else (some (((bt t250 (ji23)) == 109) == ((Int.tmod (wrap64 (Int.tmod a0 536870912)) 60) != 0)))) else (some false)) else (if (((bt t250 (ji23)) == 104) == ((Int.tmod (wrap64 (Int.tmod a0 536870912)) 60) == 0)) = true then (if (wrap64 (Int.tmod a0 536870912)) = 0 then (some (((bt t250 (ji23)) == 109) == true)) else (some (((bt t250 (ji23)) == 109) == ((Int.tmod (wrap64 (Int.tmod a0 536870912)) 60) != 0)))) else (some false))) else (some false))) else (none)) else (none)) = some r := by first | (rw [hji23] at H; exact H) | (simp only [hji23] at H ⊢; exact H)
            (try rw [hji23] at A20)
            have hji23w : (IntKind.i64.wrap ((t250.size : Int) - 1)) = ji23 := (i64_w _).trans hji23
            by_cases c24 : 0 ≤ (ji23)
            · rw [if_pos c24] at H
              have c24b0 : decide (0 ≤ (ji23)) = true := decide_eq_true c24
              clear c24
              by_cases c25 : (ji23) < (t250.size : Int)
              · rw [if_pos c25] at H
                have c25b0 : decide ((ji23) < (t250.size : Int)) = true := decide_eq_true c25
                clear c25
                by_cases c27 : (wrap64 (Int.tmod a0 536870912)) > 0
                · rw [if_pos c27] at H
                  have c27b0 : decide (0 < (wrap64 (Int.tmod a0 536870912))) = true := decide_eq_true c27
                  clear c27
                  by_cases c28 : (((bt t250 (ji23)) == 100) == ((Int.tmod (wrap64 (Int.tmod a0 536870912)) 1440) == 0)) = true
                  · rw [if_pos c28] at H
                    have c28b0 : (((bt t250 (ji23)) == 100) == ((Int.tmod (wrap64 (Int.tmod a0 536870912)) 1440) == 0)) = true := c28
                    (try (have c28k := erewhilelaw33_CaltokSums.bbt c28b0 rfl))
                    (try (have c28kf := erewhilelaw33_CaltokSums.bbtf c28b0 rfl))
                    (try (have c28b1 : decide (((bt t250 (ji23)) == 100) = ((Int.tmod (wrap64 (Int.tmod a0 536870912)) 1440) == 0)) = true := by simpa using c28))
                    (try (have c28b2 : (((bt t250 (ji23)) == 100) == ((Int.tmod (wrap64 (Int.tmod a0 536870912)) 1440) == 0)) = true := by simpa using c28))
                    clear c28
                    by_cases c29 : (Int.tmod (wrap64 (Int.tmod a0 536870912)) 1440) = 0
                    · rw [if_pos c29] at H
                      have c29b0 : ((Int.tmod (wrap64 (Int.tmod a0 536870912)) 1440) == 0) = true := beq_iff_eq.mpr c29
                      (try (have c28zc29 := erewhilelaw33_CaltokSums.bbt c28b0 c29b0))
                      have c29b1 : ((Int.tmod (wrap64 (Int.tmod a0 536870912)) 1440) != 0) = false := bne_eq_false_iff_eq.mpr c29
                      clear c29
                      by_cases c30 : (((bt t250 (ji23)) == 104) == false) = true
                      · rw [if_pos c30] at H
                        have c30b0 : (((bt t250 (ji23)) == 104) == false) = true := c30
                        (try (have c30k := erewhilelaw33_CaltokSums.bbt c30b0 rfl))
                        (try (have c30kf := erewhilelaw33_CaltokSums.bbtf c30b0 rfl))
                        (try (have c30b1 : decide (((bt t250 (ji23)) == 104) = false) = true := by simpa using c30))
                        (try (have c30b2 : (((bt t250 (ji23)) == 104) == false) = true := by simpa using c30))
                        clear c30
                        by_cases c31 : (wrap64 (Int.tmod a0 536870912)) = 0
                        · rw [if_pos c31] at H
                          have c31b0 : ((wrap64 (Int.tmod a0 536870912)) == 0) = true := beq_iff_eq.mpr c31
                          (try (have c28zc31 := erewhilelaw33_CaltokSums.bbt c28b0 c31b0))
                          (try (have c30zc31 := erewhilelaw33_CaltokSums.bbt c30b0 c31b0))
                          have c31b1 : ((wrap64 (Int.tmod a0 536870912)) != 0) = false := bne_eq_false_iff_eq.mpr c31
                          clear c31
                          obtain rfl := Option.some.inj H
                          go_wp2_with (first | ((with_reducible refine gate_callee (f := 13) rfl ?_); refine goesL_ (some 61) rfl rfl Tryd.func13 (by kernel_rfl) rfl #[.int .i64 (wrap64 (Int.tmod a0 536870912))] rfl (by (try simp only [List.map_toArray, List.map_cons, List.map_nil]); first | done | rfl | (simp only [List.length_drop, List.length_take]; rfl)) ?_; (with_reducible refine (caltok_Text.calls kj10 (wrap64 (Int.tmod a0 536870912)) t250 _ ?sideT A20.out).mono ?_); (case sideT => exact Tab.below HT.out (by repeat (first | (with_reducible first | exact HB.out | apply below_alloc | apply pw_below_drewN | apply below_drew1) | exact HB.out))); rintro e w32 ⟨rfl, hb⟩; refine ⟨_, rfl, ?_⟩; have n0_ := Aside0.mk (below_step (by repeat (first | (with_reducible first | exact HB.out | apply below_alloc | apply pw_below_drewN | apply below_drew1) | exact HB.out)) hb); clear HB; have HB := n0_; clear n0_; (try clear hb); (try clear hb2); (try clear hk); (try clear hi); have p26 : 0 ≤ ((ji23) : Int) := of_decide_eq_true (by first | (with_reducible assumption) | assumption); have q26 : (ji23) < (t250.size : Int) := of_decide_eq_true (by first | (with_reducible assumption) | assumption); have hx26 := bt_at t250 (ji23); replace p26 := eq_true p26; replace q26 := eq_true q26))
                          go_ret
                          exact ⟨by first | rfl | (simp [errW_none, errW_some] <;> rfl) | (simp only [← hji23]; first | rfl | (simp [errW_none, errW_some] <;> rfl)) | (simp [*, errW_none, errW_some] <;> rfl), by repeat (first | (with_reducible first | exact HB.out | apply below_alloc | apply pw_below_drewN | apply below_drew1) | exact HB.out)⟩
                        · rw [if_neg c31] at H
                          have c31b0 : ((wrap64 (Int.tmod a0 536870912)) == 0) = false := beq_eq_false_iff_ne.mpr c31
                          (try (have c28zc31 := erewhilelaw33_CaltokSums.bbtf c28b0 c31b0))
                          (try (have c30zc31 := erewhilelaw33_CaltokSums.bbtf c30b0 c31b0))
                          have c31b1 : ((wrap64 (Int.tmod a0 536870912)) != 0) = true := bne_iff_ne.mpr c31
                          obtain rfl := Option.some.inj H
                          go_wp2_with (first | ((with_reducible refine gate_callee (f := 13) rfl ?_); refine goesL_ (some 61) rfl rfl Tryd.func13 (by kernel_rfl) rfl #[.int .i64 (wrap64 (Int.tmod a0 536870912))] rfl (by (try simp only [List.map_toArray, List.map_cons, List.map_nil]); first | done | rfl | (simp only [List.length_drop, List.length_take]; rfl)) ?_; (with_reducible refine (caltok_Text.calls kj10 (wrap64 (Int.tmod a0 536870912)) t250 _ ?sideT A20.out).mono ?_); (case sideT => exact Tab.below HT.out (by repeat (first | (with_reducible first | exact HB.out | apply below_alloc | apply pw_below_drewN | apply below_drew1) | exact HB.out))); rintro e w33 ⟨rfl, hb⟩; refine ⟨_, rfl, ?_⟩; have n0_ := Aside0.mk (below_step (by repeat (first | (with_reducible first | exact HB.out | apply below_alloc | apply pw_below_drewN | apply below_drew1) | exact HB.out)) hb); clear HB; have HB := n0_; clear n0_; (try clear hb); (try clear hb2); (try clear hk); (try clear hi); have p26 : 0 ≤ ((ji23) : Int) := of_decide_eq_true (by first | (with_reducible assumption) | assumption); have q26 : (ji23) < (t250.size : Int) := of_decide_eq_true (by first | (with_reducible assumption) | assumption); have hx26 := bt_at t250 (ji23); replace p26 := eq_true p26; replace q26 := eq_true q26))
                          go_ret
                          exact ⟨by first | rfl | (simp [errW_none, errW_some] <;> rfl) | (simp only [← hji23]; first | rfl | (simp [errW_none, errW_some] <;> rfl)) | (simp [*, errW_none, errW_some] <;> rfl), by repeat (first | (with_reducible first | exact HB.out | apply below_alloc | apply pw_below_drewN | apply below_drew1) | exact HB.out)⟩
                      · rw [if_neg c30] at H
                        have c30b0 : (((bt t250 (ji23)) == 104) == false) = false := by simpa using c30
                        (try (have c30k := erewhilelaw33_CaltokSums.bbf c30b0 rfl))
                        (try (have c30kf := erewhilelaw33_CaltokSums.bbff c30b0 rfl))
                        (try (have c30b1 : decide (((bt t250 (ji23)) == 104) = false) = false := by simpa using c30))
                        (try (have c30b2 : (((bt t250 (ji23)) == 104) == false) = false := by simpa using c30))
                        (try (have c30b3 : ¬ (((bt t250 (ji23)) == 104) = false) := by simpa using c30))
                        clear c30
                        obtain rfl := Option.some.inj H
                        go_wp2_with (first | ((with_reducible refine gate_callee (f := 13) rfl ?_); refine goesL_ (some 61) rfl rfl Tryd.func13 (by kernel_rfl) rfl #[.int .i64 (wrap64 (Int.tmod a0 536870912))] rfl (by (try simp only [List.map_toArray, List.map_cons, List.map_nil]); first | done | rfl | (simp only [List.length_drop, List.length_take]; rfl)) ?_; (with_reducible refine (caltok_Text.calls kj10 (wrap64 (Int.tmod a0 536870912)) t250 _ ?sideT A20.out).mono ?_); (case sideT => exact Tab.below HT.out (by repeat (first | (with_reducible first | exact HB.out | apply below_alloc | apply pw_below_drewN | apply below_drew1) | exact HB.out))); rintro e w34 ⟨rfl, hb⟩; refine ⟨_, rfl, ?_⟩; have n0_ := Aside0.mk (below_step (by repeat (first | (with_reducible first | exact HB.out | apply below_alloc | apply pw_below_drewN | apply below_drew1) | exact HB.out)) hb); clear HB; have HB := n0_; clear n0_; (try clear hb); (try clear hb2); (try clear hk); (try clear hi); have p26 : 0 ≤ ((ji23) : Int) := of_decide_eq_true (by first | (with_reducible assumption) | assumption); have q26 : (ji23) < (t250.size : Int) := of_decide_eq_true (by first | (with_reducible assumption) | assumption); have hx26 := bt_at t250 (ji23); replace p26 := eq_true p26; replace q26 := eq_true q26))
                        go_ret
                        exact ⟨by first | rfl | (simp [errW_none, errW_some] <;> rfl) | (simp only [← hji23]; first | rfl | (simp [errW_none, errW_some] <;> rfl)) | (simp [*, errW_none, errW_some] <;> rfl), by repeat (first | (with_reducible first | exact HB.out | apply below_alloc | apply pw_below_drewN | apply below_drew1) | exact HB.out)⟩
                    · rw [if_neg c29] at H
                      have c29b0 : ((Int.tmod (wrap64 (Int.tmod a0 536870912)) 1440) == 0) = false := beq_eq_false_iff_ne.mpr c29
                      (try (have c28zc29 := erewhilelaw33_CaltokSums.bbtf c28b0 c29b0))
                      (try (have c30zc29 := erewhilelaw33_CaltokSums.bbtf c30b0 c29b0))
                      (try (have c30zc29 := erewhilelaw33_CaltokSums.bbff c30b0 c29b0))
                      have c29b1 : ((Int.tmod (wrap64 (Int.tmod a0 536870912)) 1440) != 0) = true := bne_iff_ne.mpr c29
                      by_cases c35 : (((bt t250 (ji23)) == 104) == ((Int.tmod (wrap64 (Int.tmod a0 536870912)) 60) == 0)) = true
                      · rw [if_pos c35] at H
                        have c35b0 : (((bt t250 (ji23)) == 104) == ((Int.tmod (wrap64 (Int.tmod a0 536870912)) 60) == 0)) = true := c35
                        (try (have c35k := erewhilelaw33_CaltokSums.bbt c35b0 rfl))
                        (try (have c35kf := erewhilelaw33_CaltokSums.bbtf c35b0 rfl))
                        (try (have c35b1 : decide (((bt t250 (ji23)) == 104) = ((Int.tmod (wrap64 (Int.tmod a0 536870912)) 60) == 0)) = true := by simpa using c35))
                        (try (have c35b2 : (((bt t250 (ji23)) == 104) == ((Int.tmod (wrap64 (Int.tmod a0 536870912)) 60) == 0)) = true := by simpa using c35))
                        clear c35
                        by_cases c36 : (wrap64 (Int.tmod a0 536870912)) = 0
                        · rw [if_pos c36] at H
                          have c36b0 : ((wrap64 (Int.tmod a0 536870912)) == 0) = true := beq_iff_eq.mpr c36
                          (try (have c28zc36 := erewhilelaw33_CaltokSums.bbt c28b0 c36b0))
                          (try (have c30zc36 := erewhilelaw33_CaltokSums.bbt c30b0 c36b0))
                          (try (have c30zc36 := erewhilelaw33_CaltokSums.bbf c30b0 c36b0))
                          (try (have c35zc36 := erewhilelaw33_CaltokSums.bbt c35b0 c36b0))
                          have c36b1 : ((wrap64 (Int.tmod a0 536870912)) != 0) = false := bne_eq_false_iff_eq.mpr c36
                          clear c36
                          obtain rfl := Option.some.inj H
                          go_wp2_with (first | ((with_reducible refine gate_callee (f := 13) rfl ?_); refine goesL_ (some 61) rfl rfl Tryd.func13 (by kernel_rfl) rfl #[.int .i64 (wrap64 (Int.tmod a0 536870912))] rfl (by (try simp only [List.map_toArray, List.map_cons, List.map_nil]); first | done | rfl | (simp only [List.length_drop, List.length_take]; rfl)) ?_; (with_reducible refine (caltok_Text.calls kj10 (wrap64 (Int.tmod a0 536870912)) t250 _ ?sideT A20.out).mono ?_); (case sideT => exact Tab.below HT.out (by repeat (first | (with_reducible first | exact HB.out | apply below_alloc | apply pw_below_drewN | apply below_drew1) | exact HB.out))); rintro e w37 ⟨rfl, hb⟩; refine ⟨_, rfl, ?_⟩; have n0_ := Aside0.mk (below_step (by repeat (first | (with_reducible first | exact HB.out | apply below_alloc | apply pw_below_drewN | apply below_drew1) | exact HB.out)) hb); clear HB; have HB := n0_; clear n0_; (try clear hb); (try clear hb2); (try clear hk); (try clear hi); have p26 : 0 ≤ ((ji23) : Int) := of_decide_eq_true (by first | (with_reducible assumption) | assumption); have q26 : (ji23) < (t250.size : Int) := of_decide_eq_true (by first | (with_reducible assumption) | assumption); have hx26 := bt_at t250 (ji23); replace p26 := eq_true p26; replace q26 := eq_true q26))
                          go_ret
                          exact ⟨by first | rfl | (simp [errW_none, errW_some] <;> rfl) | (simp only [← hji23]; first | rfl | (simp [errW_none, errW_some] <;> rfl)) | (simp [*, errW_none, errW_some] <;> rfl), by repeat (first | (with_reducible first | exact HB.out | apply below_alloc | apply pw_below_drewN | apply below_drew1) | exact HB.out)⟩
                        · rw [if_neg c36] at H
                          have c36b0 : ((wrap64 (Int.tmod a0 536870912)) == 0) = false := beq_eq_false_iff_ne.mpr c36
                          (try (have c28zc36 := erewhilelaw33_CaltokSums.bbtf c28b0 c36b0))
                          (try (have c30zc36 := erewhilelaw33_CaltokSums.bbtf c30b0 c36b0))
                          (try (have c30zc36 := erewhilelaw33_CaltokSums.bbff c30b0 c36b0))
                          (try (have c35zc36 := erewhilelaw33_CaltokSums.bbtf c35b0 c36b0))
                          have c36b1 : ((wrap64 (Int.tmod a0 536870912)) != 0) = true := bne_iff_ne.mpr c36
                          obtain rfl := Option.some.inj H
                          go_wp2_with (first | ((with_reducible refine gate_callee (f := 13) rfl ?_); refine goesL_ (some 61) rfl rfl Tryd.func13 (by kernel_rfl) rfl #[.int .i64 (wrap64 (Int.tmod a0 536870912))] rfl (by (try simp only [List.map_toArray, List.map_cons, List.map_nil]); first | done | rfl | (simp only [List.length_drop, List.length_take]; rfl)) ?_; (with_reducible refine (caltok_Text.calls kj10 (wrap64 (Int.tmod a0 536870912)) t250 _ ?sideT A20.out).mono ?_); (case sideT => exact Tab.below HT.out (by repeat (first | (with_reducible first | exact HB.out | apply below_alloc | apply pw_below_drewN | apply below_drew1) | exact HB.out))); rintro e w38 ⟨rfl, hb⟩; refine ⟨_, rfl, ?_⟩; have n0_ := Aside0.mk (below_step (by repeat (first | (with_reducible first | exact HB.out | apply below_alloc | apply pw_below_drewN | apply below_drew1) | exact HB.out)) hb); clear HB; have HB := n0_; clear n0_; (try clear hb); (try clear hb2); (try clear hk); (try clear hi); have p26 : 0 ≤ ((ji23) : Int) := of_decide_eq_true (by first | (with_reducible assumption) | assumption); have q26 : (ji23) < (t250.size : Int) := of_decide_eq_true (by first | (with_reducible assumption) | assumption); have hx26 := bt_at t250 (ji23); replace p26 := eq_true p26; replace q26 := eq_true q26))
                          go_ret
                          exact ⟨by first | rfl | (simp [errW_none, errW_some] <;> rfl) | (simp only [← hji23]; first | rfl | (simp [errW_none, errW_some] <;> rfl)) | (simp [*, errW_none, errW_some] <;> rfl), by repeat (first | (with_reducible first | exact HB.out | apply below_alloc | apply pw_below_drewN | apply below_drew1) | exact HB.out)⟩
                      · rw [if_neg c35] at H
                        have c35b0 : (((bt t250 (ji23)) == 104) == ((Int.tmod (wrap64 (Int.tmod a0 536870912)) 60) == 0)) = false := by simpa using c35
                        (try (have c35k := erewhilelaw33_CaltokSums.bbf c35b0 rfl))
                        (try (have c35kf := erewhilelaw33_CaltokSums.bbff c35b0 rfl))
                        (try (have c35b1 : decide (((bt t250 (ji23)) == 104) = ((Int.tmod (wrap64 (Int.tmod a0 536870912)) 60) == 0)) = false := by simpa using c35))
                        (try (have c35b2 : (((bt t250 (ji23)) == 104) == ((Int.tmod (wrap64 (Int.tmod a0 536870912)) 60) == 0)) = false := by simpa using c35))
                        (try (have c35b3 : ¬ (((bt t250 (ji23)) == 104) = ((Int.tmod (wrap64 (Int.tmod a0 536870912)) 60) == 0)) := by simpa using c35))
                        clear c35
                        obtain rfl := Option.some.inj H
                        go_wp2_with (first | ((with_reducible refine gate_callee (f := 13) rfl ?_); refine goesL_ (some 61) rfl rfl Tryd.func13 (by kernel_rfl) rfl #[.int .i64 (wrap64 (Int.tmod a0 536870912))] rfl (by (try simp only [List.map_toArray, List.map_cons, List.map_nil]); first | done | rfl | (simp only [List.length_drop, List.length_take]; rfl)) ?_; (with_reducible refine (caltok_Text.calls kj10 (wrap64 (Int.tmod a0 536870912)) t250 _ ?sideT A20.out).mono ?_); (case sideT => exact Tab.below HT.out (by repeat (first | (with_reducible first | exact HB.out | apply below_alloc | apply pw_below_drewN | apply below_drew1) | exact HB.out))); rintro e w39 ⟨rfl, hb⟩; refine ⟨_, rfl, ?_⟩; have n0_ := Aside0.mk (below_step (by repeat (first | (with_reducible first | exact HB.out | apply below_alloc | apply pw_below_drewN | apply below_drew1) | exact HB.out)) hb); clear HB; have HB := n0_; clear n0_; (try clear hb); (try clear hb2); (try clear hk); (try clear hi); have p26 : 0 ≤ ((ji23) : Int) := of_decide_eq_true (by first | (with_reducible assumption) | assumption); have q26 : (ji23) < (t250.size : Int) := of_decide_eq_true (by first | (with_reducible assumption) | assumption); have hx26 := bt_at t250 (ji23); replace p26 := eq_true p26; replace q26 := eq_true q26))
                        go_ret
                        exact ⟨by first | rfl | (simp [errW_none, errW_some] <;> rfl) | (simp only [← hji23]; first | rfl | (simp [errW_none, errW_some] <;> rfl)) | (simp [*, errW_none, errW_some] <;> rfl), by repeat (first | (with_reducible first | exact HB.out | apply below_alloc | apply pw_below_drewN | apply below_drew1) | exact HB.out)⟩
                  · rw [if_neg c28] at H
                    have c28b0 : (((bt t250 (ji23)) == 100) == ((Int.tmod (wrap64 (Int.tmod a0 536870912)) 1440) == 0)) = false := by simpa using c28
                    (try (have c28k := erewhilelaw33_CaltokSums.bbf c28b0 rfl))
                    (try (have c28kf := erewhilelaw33_CaltokSums.bbff c28b0 rfl))
                    (try (have c28b1 : decide (((bt t250 (ji23)) == 100) = ((Int.tmod (wrap64 (Int.tmod a0 536870912)) 1440) == 0)) = false := by simpa using c28))
                    (try (have c28b2 : (((bt t250 (ji23)) == 100) == ((Int.tmod (wrap64 (Int.tmod a0 536870912)) 1440) == 0)) = false := by simpa using c28))
                    (try (have c28b3 : ¬ (((bt t250 (ji23)) == 100) = ((Int.tmod (wrap64 (Int.tmod a0 536870912)) 1440) == 0)) := by simpa using c28))
                    clear c28
                    obtain rfl := Option.some.inj H
                    go_wp2_with (first | ((with_reducible refine gate_callee (f := 13) rfl ?_); refine goesL_ (some 61) rfl rfl Tryd.func13 (by kernel_rfl) rfl #[.int .i64 (wrap64 (Int.tmod a0 536870912))] rfl (by (try simp only [List.map_toArray, List.map_cons, List.map_nil]); first | done | rfl | (simp only [List.length_drop, List.length_take]; rfl)) ?_; (with_reducible refine (caltok_Text.calls kj10 (wrap64 (Int.tmod a0 536870912)) t250 _ ?sideT A20.out).mono ?_); (case sideT => exact Tab.below HT.out (by repeat (first | (with_reducible first | exact HB.out | apply below_alloc | apply pw_below_drewN | apply below_drew1) | exact HB.out))); rintro e w40 ⟨rfl, hb⟩; refine ⟨_, rfl, ?_⟩; have n0_ := Aside0.mk (below_step (by repeat (first | (with_reducible first | exact HB.out | apply below_alloc | apply pw_below_drewN | apply below_drew1) | exact HB.out)) hb); clear HB; have HB := n0_; clear n0_; (try clear hb); (try clear hb2); (try clear hk); (try clear hi); have p26 : 0 ≤ ((ji23) : Int) := of_decide_eq_true (by first | (with_reducible assumption) | assumption); have q26 : (ji23) < (t250.size : Int) := of_decide_eq_true (by first | (with_reducible assumption) | assumption); have hx26 := bt_at t250 (ji23); replace p26 := eq_true p26; replace q26 := eq_true q26))
                    go_ret
                    exact ⟨by first | rfl | (simp [errW_none, errW_some] <;> rfl) | (simp only [← hji23]; first | rfl | (simp [errW_none, errW_some] <;> rfl)) | (simp [*, errW_none, errW_some] <;> rfl), by repeat (first | (with_reducible first | exact HB.out | apply below_alloc | apply pw_below_drewN | apply below_drew1) | exact HB.out)⟩
                · rw [if_neg c27] at H
                  have c27b0 : decide (0 < (wrap64 (Int.tmod a0 536870912))) = false := decide_eq_false c27
                  (try (have c28zc27 := erewhilelaw33_CaltokSums.bbtf c28b0 c27b0))
                  (try (have c30zc27 := erewhilelaw33_CaltokSums.bbtf c30b0 c27b0))
                  (try (have c30zc27 := erewhilelaw33_CaltokSums.bbff c30b0 c27b0))
                  (try (have c35zc27 := erewhilelaw33_CaltokSums.bbtf c35b0 c27b0))
                  (try (have c35zc27 := erewhilelaw33_CaltokSums.bbff c35b0 c27b0))
                  (try (have c28zc27 := erewhilelaw33_CaltokSums.bbff c28b0 c27b0))
                  clear c27
                  by_cases c41 : (((bt t250 (ji23)) == 100) == false) = true
                  · rw [if_pos c41] at H
                    have c41b0 : (((bt t250 (ji23)) == 100) == false) = true := c41
                    (try (have c41k := erewhilelaw33_CaltokSums.bbt c41b0 rfl))
                    (try (have c41kf := erewhilelaw33_CaltokSums.bbtf c41b0 rfl))
                    (try (have c41b1 : decide (((bt t250 (ji23)) == 100) = false) = true := by simpa using c41))
                    (try (have c41b2 : (((bt t250 (ji23)) == 100) == false) = true := by simpa using c41))
                    clear c41
                    by_cases c42 : (Int.tmod (wrap64 (Int.tmod a0 536870912)) 1440) = 0
                    · rw [if_pos c42] at H
                      have c42b0 : ((Int.tmod (wrap64 (Int.tmod a0 536870912)) 1440) == 0) = true := beq_iff_eq.mpr c42
                      (try (have c28zc42 := erewhilelaw33_CaltokSums.bbt c28b0 c42b0))
                      (try (have c30zc42 := erewhilelaw33_CaltokSums.bbt c30b0 c42b0))
                      (try (have c30zc42 := erewhilelaw33_CaltokSums.bbf c30b0 c42b0))
                      (try (have c35zc42 := erewhilelaw33_CaltokSums.bbt c35b0 c42b0))
                      (try (have c35zc42 := erewhilelaw33_CaltokSums.bbf c35b0 c42b0))
                      (try (have c28zc42 := erewhilelaw33_CaltokSums.bbf c28b0 c42b0))
                      (try (have c41zc42 := erewhilelaw33_CaltokSums.bbt c41b0 c42b0))
                      have c42b1 : ((Int.tmod (wrap64 (Int.tmod a0 536870912)) 1440) != 0) = false := bne_eq_false_iff_eq.mpr c42
                      clear c42
                      by_cases c43 : (((bt t250 (ji23)) == 104) == false) = true
                      · rw [if_pos c43] at H
                        have c43b0 : (((bt t250 (ji23)) == 104) == false) = true := c43
                        (try (have c43k := erewhilelaw33_CaltokSums.bbt c43b0 rfl))
                        (try (have c43kf := erewhilelaw33_CaltokSums.bbtf c43b0 rfl))
                        (try (have c43b1 : decide (((bt t250 (ji23)) == 104) = false) = true := by simpa using c43))
                        (try (have c43b2 : (((bt t250 (ji23)) == 104) == false) = true := by simpa using c43))
                        clear c43
                        by_cases c44 : (wrap64 (Int.tmod a0 536870912)) = 0
                        · rw [if_pos c44] at H
                          have c44b0 : ((wrap64 (Int.tmod a0 536870912)) == 0) = true := beq_iff_eq.mpr c44
                          (try (have c28zc44 := erewhilelaw33_CaltokSums.bbt c28b0 c44b0))
                          (try (have c30zc44 := erewhilelaw33_CaltokSums.bbt c30b0 c44b0))
                          (try (have c30zc44 := erewhilelaw33_CaltokSums.bbf c30b0 c44b0))
                          (try (have c35zc44 := erewhilelaw33_CaltokSums.bbt c35b0 c44b0))
                          (try (have c35zc44 := erewhilelaw33_CaltokSums.bbf c35b0 c44b0))
                          (try (have c28zc44 := erewhilelaw33_CaltokSums.bbf c28b0 c44b0))
                          (try (have c41zc44 := erewhilelaw33_CaltokSums.bbt c41b0 c44b0))
                          (try (have c43zc44 := erewhilelaw33_CaltokSums.bbt c43b0 c44b0))
                          have c44b1 : ((wrap64 (Int.tmod a0 536870912)) != 0) = false := bne_eq_false_iff_eq.mpr c44
                          clear c44
                          obtain rfl := Option.some.inj H
                          go_wp2_with (first | ((with_reducible refine gate_callee (f := 13) rfl ?_); refine goesL_ (some 61) rfl rfl Tryd.func13 (by kernel_rfl) rfl #[.int .i64 (wrap64 (Int.tmod a0 536870912))] rfl (by (try simp only [List.map_toArray, List.map_cons, List.map_nil]); first | done | rfl | (simp only [List.length_drop, List.length_take]; rfl)) ?_; (with_reducible refine (caltok_Text.calls kj10 (wrap64 (Int.tmod a0 536870912)) t250 _ ?sideT A20.out).mono ?_); (case sideT => exact Tab.below HT.out (by repeat (first | (with_reducible first | exact HB.out | apply below_alloc | apply pw_below_drewN | apply below_drew1) | exact HB.out))); rintro e w45 ⟨rfl, hb⟩; refine ⟨_, rfl, ?_⟩; have n0_ := Aside0.mk (below_step (by repeat (first | (with_reducible first | exact HB.out | apply below_alloc | apply pw_below_drewN | apply below_drew1) | exact HB.out)) hb); clear HB; have HB := n0_; clear n0_; (try clear hb); (try clear hb2); (try clear hk); (try clear hi); have p26 : 0 ≤ ((ji23) : Int) := of_decide_eq_true (by first | (with_reducible assumption) | assumption); have q26 : (ji23) < (t250.size : Int) := of_decide_eq_true (by first | (with_reducible assumption) | assumption); have hx26 := bt_at t250 (ji23); replace p26 := eq_true p26; replace q26 := eq_true q26))
                          go_ret
                          exact ⟨by first | rfl | (simp [errW_none, errW_some] <;> rfl) | (simp only [← hji23]; first | rfl | (simp [errW_none, errW_some] <;> rfl)) | (simp [*, errW_none, errW_some] <;> rfl), by repeat (first | (with_reducible first | exact HB.out | apply below_alloc | apply pw_below_drewN | apply below_drew1) | exact HB.out)⟩
                        · rw [if_neg c44] at H
                          have c44b0 : ((wrap64 (Int.tmod a0 536870912)) == 0) = false := beq_eq_false_iff_ne.mpr c44
                          (try (have c28zc44 := erewhilelaw33_CaltokSums.bbtf c28b0 c44b0))
                          (try (have c30zc44 := erewhilelaw33_CaltokSums.bbtf c30b0 c44b0))
                          (try (have c30zc44 := erewhilelaw33_CaltokSums.bbff c30b0 c44b0))
                          (try (have c35zc44 := erewhilelaw33_CaltokSums.bbtf c35b0 c44b0))
                          (try (have c35zc44 := erewhilelaw33_CaltokSums.bbff c35b0 c44b0))
                          (try (have c28zc44 := erewhilelaw33_CaltokSums.bbff c28b0 c44b0))
                          (try (have c41zc44 := erewhilelaw33_CaltokSums.bbtf c41b0 c44b0))
                          (try (have c43zc44 := erewhilelaw33_CaltokSums.bbtf c43b0 c44b0))
                          have c44b1 : ((wrap64 (Int.tmod a0 536870912)) != 0) = true := bne_iff_ne.mpr c44
                          obtain rfl := Option.some.inj H
                          go_wp2_with (first | ((with_reducible refine gate_callee (f := 13) rfl ?_); refine goesL_ (some 61) rfl rfl Tryd.func13 (by kernel_rfl) rfl #[.int .i64 (wrap64 (Int.tmod a0 536870912))] rfl (by (try simp only [List.map_toArray, List.map_cons, List.map_nil]); first | done | rfl | (simp only [List.length_drop, List.length_take]; rfl)) ?_; (with_reducible refine (caltok_Text.calls kj10 (wrap64 (Int.tmod a0 536870912)) t250 _ ?sideT A20.out).mono ?_); (case sideT => exact Tab.below HT.out (by repeat (first | (with_reducible first | exact HB.out | apply below_alloc | apply pw_below_drewN | apply below_drew1) | exact HB.out))); rintro e w46 ⟨rfl, hb⟩; refine ⟨_, rfl, ?_⟩; have n0_ := Aside0.mk (below_step (by repeat (first | (with_reducible first | exact HB.out | apply below_alloc | apply pw_below_drewN | apply below_drew1) | exact HB.out)) hb); clear HB; have HB := n0_; clear n0_; (try clear hb); (try clear hb2); (try clear hk); (try clear hi); have p26 : 0 ≤ ((ji23) : Int) := of_decide_eq_true (by first | (with_reducible assumption) | assumption); have q26 : (ji23) < (t250.size : Int) := of_decide_eq_true (by first | (with_reducible assumption) | assumption); have hx26 := bt_at t250 (ji23); replace p26 := eq_true p26; replace q26 := eq_true q26))
                          go_ret
                          exact ⟨by first | rfl | (simp [errW_none, errW_some] <;> rfl) | (simp only [← hji23]; first | rfl | (simp [errW_none, errW_some] <;> rfl)) | (simp [*, errW_none, errW_some] <;> rfl), by repeat (first | (with_reducible first | exact HB.out | apply below_alloc | apply pw_below_drewN | apply below_drew1) | exact HB.out)⟩
                      · rw [if_neg c43] at H
                        have c43b0 : (((bt t250 (ji23)) == 104) == false) = false := by simpa using c43
                        (try (have c43k := erewhilelaw33_CaltokSums.bbf c43b0 rfl))
                        (try (have c43kf := erewhilelaw33_CaltokSums.bbff c43b0 rfl))
                        (try (have c43b1 : decide (((bt t250 (ji23)) == 104) = false) = false := by simpa using c43))
                        (try (have c43b2 : (((bt t250 (ji23)) == 104) == false) = false := by simpa using c43))
                        (try (have c43b3 : ¬ (((bt t250 (ji23)) == 104) = false) := by simpa using c43))
                        clear c43
                        obtain rfl := Option.some.inj H
                        go_wp2_with (first | ((with_reducible refine gate_callee (f := 13) rfl ?_); refine goesL_ (some 61) rfl rfl Tryd.func13 (by kernel_rfl) rfl #[.int .i64 (wrap64 (Int.tmod a0 536870912))] rfl (by (try simp only [List.map_toArray, List.map_cons, List.map_nil]); first | done | rfl | (simp only [List.length_drop, List.length_take]; rfl)) ?_; (with_reducible refine (caltok_Text.calls kj10 (wrap64 (Int.tmod a0 536870912)) t250 _ ?sideT A20.out).mono ?_); (case sideT => exact Tab.below HT.out (by repeat (first | (with_reducible first | exact HB.out | apply below_alloc | apply pw_below_drewN | apply below_drew1) | exact HB.out))); rintro e w47 ⟨rfl, hb⟩; refine ⟨_, rfl, ?_⟩; have n0_ := Aside0.mk (below_step (by repeat (first | (with_reducible first | exact HB.out | apply below_alloc | apply pw_below_drewN | apply below_drew1) | exact HB.out)) hb); clear HB; have HB := n0_; clear n0_; (try clear hb); (try clear hb2); (try clear hk); (try clear hi); have p26 : 0 ≤ ((ji23) : Int) := of_decide_eq_true (by first | (with_reducible assumption) | assumption); have q26 : (ji23) < (t250.size : Int) := of_decide_eq_true (by first | (with_reducible assumption) | assumption); have hx26 := bt_at t250 (ji23); replace p26 := eq_true p26; replace q26 := eq_true q26))
                        go_ret
                        exact ⟨by first | rfl | (simp [errW_none, errW_some] <;> rfl) | (simp only [← hji23]; first | rfl | (simp [errW_none, errW_some] <;> rfl)) | (simp [*, errW_none, errW_some] <;> rfl), by repeat (first | (with_reducible first | exact HB.out | apply below_alloc | apply pw_below_drewN | apply below_drew1) | exact HB.out)⟩
                    · rw [if_neg c42] at H
                      have c42b0 : ((Int.tmod (wrap64 (Int.tmod a0 536870912)) 1440) == 0) = false := beq_eq_false_iff_ne.mpr c42
                      (try (have c28zc42 := erewhilelaw33_CaltokSums.bbtf c28b0 c42b0))
                      (try (have c30zc42 := erewhilelaw33_CaltokSums.bbtf c30b0 c42b0))
                      (try (have c30zc42 := erewhilelaw33_CaltokSums.bbff c30b0 c42b0))
                      (try (have c35zc42 := erewhilelaw33_CaltokSums.bbtf c35b0 c42b0))
                      (try (have c35zc42 := erewhilelaw33_CaltokSums.bbff c35b0 c42b0))
                      (try (have c28zc42 := erewhilelaw33_CaltokSums.bbff c28b0 c42b0))
                      (try (have c41zc42 := erewhilelaw33_CaltokSums.bbtf c41b0 c42b0))
                      (try (have c43zc42 := erewhilelaw33_CaltokSums.bbtf c43b0 c42b0))
                      (try (have c43zc42 := erewhilelaw33_CaltokSums.bbff c43b0 c42b0))
                      have c42b1 : ((Int.tmod (wrap64 (Int.tmod a0 536870912)) 1440) != 0) = true := bne_iff_ne.mpr c42
                      by_cases c48 : (((bt t250 (ji23)) == 104) == ((Int.tmod (wrap64 (Int.tmod a0 536870912)) 60) == 0)) = true
                      · rw [if_pos c48] at H
                        have c48b0 : (((bt t250 (ji23)) == 104) == ((Int.tmod (wrap64 (Int.tmod a0 536870912)) 60) == 0)) = true := c48
                        (try (have c48k := erewhilelaw33_CaltokSums.bbt c48b0 rfl))
                        (try (have c48kf := erewhilelaw33_CaltokSums.bbtf c48b0 rfl))
                        (try (have c48b1 : decide (((bt t250 (ji23)) == 104) = ((Int.tmod (wrap64 (Int.tmod a0 536870912)) 60) == 0)) = true := by simpa using c48))
                        (try (have c48b2 : (((bt t250 (ji23)) == 104) == ((Int.tmod (wrap64 (Int.tmod a0 536870912)) 60) == 0)) = true := by simpa using c48))
                        clear c48
                        by_cases c49 : (wrap64 (Int.tmod a0 536870912)) = 0
                        · rw [if_pos c49] at H
                          have c49b0 : ((wrap64 (Int.tmod a0 536870912)) == 0) = true := beq_iff_eq.mpr c49
                          (try (have c28zc49 := erewhilelaw33_CaltokSums.bbt c28b0 c49b0))
                          (try (have c30zc49 := erewhilelaw33_CaltokSums.bbt c30b0 c49b0))
                          (try (have c30zc49 := erewhilelaw33_CaltokSums.bbf c30b0 c49b0))
                          (try (have c35zc49 := erewhilelaw33_CaltokSums.bbt c35b0 c49b0))
                          (try (have c35zc49 := erewhilelaw33_CaltokSums.bbf c35b0 c49b0))
                          (try (have c28zc49 := erewhilelaw33_CaltokSums.bbf c28b0 c49b0))
                          (try (have c41zc49 := erewhilelaw33_CaltokSums.bbt c41b0 c49b0))
                          (try (have c43zc49 := erewhilelaw33_CaltokSums.bbt c43b0 c49b0))
                          (try (have c43zc49 := erewhilelaw33_CaltokSums.bbf c43b0 c49b0))
                          (try (have c48zc49 := erewhilelaw33_CaltokSums.bbt c48b0 c49b0))
                          have c49b1 : ((wrap64 (Int.tmod a0 536870912)) != 0) = false := bne_eq_false_iff_eq.mpr c49
                          clear c49
                          obtain rfl := Option.some.inj H
                          go_wp2_with (first | ((with_reducible refine gate_callee (f := 13) rfl ?_); refine goesL_ (some 61) rfl rfl Tryd.func13 (by kernel_rfl) rfl #[.int .i64 (wrap64 (Int.tmod a0 536870912))] rfl (by (try simp only [List.map_toArray, List.map_cons, List.map_nil]); first | done | rfl | (simp only [List.length_drop, List.length_take]; rfl)) ?_; (with_reducible refine (caltok_Text.calls kj10 (wrap64 (Int.tmod a0 536870912)) t250 _ ?sideT A20.out).mono ?_); (case sideT => exact Tab.below HT.out (by repeat (first | (with_reducible first | exact HB.out | apply below_alloc | apply pw_below_drewN | apply below_drew1) | exact HB.out))); rintro e w50 ⟨rfl, hb⟩; refine ⟨_, rfl, ?_⟩; have n0_ := Aside0.mk (below_step (by repeat (first | (with_reducible first | exact HB.out | apply below_alloc | apply pw_below_drewN | apply below_drew1) | exact HB.out)) hb); clear HB; have HB := n0_; clear n0_; (try clear hb); (try clear hb2); (try clear hk); (try clear hi); have p26 : 0 ≤ ((ji23) : Int) := of_decide_eq_true (by first | (with_reducible assumption) | assumption); have q26 : (ji23) < (t250.size : Int) := of_decide_eq_true (by first | (with_reducible assumption) | assumption); have hx26 := bt_at t250 (ji23); replace p26 := eq_true p26; replace q26 := eq_true q26))
                          go_ret
                          exact ⟨by first | rfl | (simp [errW_none, errW_some] <;> rfl) | (simp only [← hji23]; first | rfl | (simp [errW_none, errW_some] <;> rfl)) | (simp [*, errW_none, errW_some] <;> rfl), by repeat (first | (with_reducible first | exact HB.out | apply below_alloc | apply pw_below_drewN | apply below_drew1) | exact HB.out)⟩
                        · rw [if_neg c49] at H
                          have c49b0 : ((wrap64 (Int.tmod a0 536870912)) == 0) = false := beq_eq_false_iff_ne.mpr c49
                          (try (have c28zc49 := erewhilelaw33_CaltokSums.bbtf c28b0 c49b0))
                          (try (have c30zc49 := erewhilelaw33_CaltokSums.bbtf c30b0 c49b0))
                          (try (have c30zc49 := erewhilelaw33_CaltokSums.bbff c30b0 c49b0))
                          (try (have c35zc49 := erewhilelaw33_CaltokSums.bbtf c35b0 c49b0))
                          (try (have c35zc49 := erewhilelaw33_CaltokSums.bbff c35b0 c49b0))
                          (try (have c28zc49 := erewhilelaw33_CaltokSums.bbff c28b0 c49b0))
                          (try (have c41zc49 := erewhilelaw33_CaltokSums.bbtf c41b0 c49b0))
                          (try (have c43zc49 := erewhilelaw33_CaltokSums.bbtf c43b0 c49b0))
                          (try (have c43zc49 := erewhilelaw33_CaltokSums.bbff c43b0 c49b0))
                          (try (have c48zc49 := erewhilelaw33_CaltokSums.bbtf c48b0 c49b0))
                          have c49b1 : ((wrap64 (Int.tmod a0 536870912)) != 0) = true := bne_iff_ne.mpr c49
                          obtain rfl := Option.some.inj H
                          go_wp2_with (first | ((with_reducible refine gate_callee (f := 13) rfl ?_); refine goesL_ (some 61) rfl rfl Tryd.func13 (by kernel_rfl) rfl #[.int .i64 (wrap64 (Int.tmod a0 536870912))] rfl (by (try simp only [List.map_toArray, List.map_cons, List.map_nil]); first | done | rfl | (simp only [List.length_drop, List.length_take]; rfl)) ?_; (with_reducible refine (caltok_Text.calls kj10 (wrap64 (Int.tmod a0 536870912)) t250 _ ?sideT A20.out).mono ?_); (case sideT => exact Tab.below HT.out (by repeat (first | (with_reducible first | exact HB.out | apply below_alloc | apply pw_below_drewN | apply below_drew1) | exact HB.out))); rintro e w51 ⟨rfl, hb⟩; refine ⟨_, rfl, ?_⟩; have n0_ := Aside0.mk (below_step (by repeat (first | (with_reducible first | exact HB.out | apply below_alloc | apply pw_below_drewN | apply below_drew1) | exact HB.out)) hb); clear HB; have HB := n0_; clear n0_; (try clear hb); (try clear hb2); (try clear hk); (try clear hi); have p26 : 0 ≤ ((ji23) : Int) := of_decide_eq_true (by first | (with_reducible assumption) | assumption); have q26 : (ji23) < (t250.size : Int) := of_decide_eq_true (by first | (with_reducible assumption) | assumption); have hx26 := bt_at t250 (ji23); replace p26 := eq_true p26; replace q26 := eq_true q26))
                          go_ret
                          exact ⟨by first | rfl | (simp [errW_none, errW_some] <;> rfl) | (simp only [← hji23]; first | rfl | (simp [errW_none, errW_some] <;> rfl)) | (simp [*, errW_none, errW_some] <;> rfl), by repeat (first | (with_reducible first | exact HB.out | apply below_alloc | apply pw_below_drewN | apply below_drew1) | exact HB.out)⟩
                      · rw [if_neg c48] at H
                        have c48b0 : (((bt t250 (ji23)) == 104) == ((Int.tmod (wrap64 (Int.tmod a0 536870912)) 60) == 0)) = false := by simpa using c48
                        (try (have c48k := erewhilelaw33_CaltokSums.bbf c48b0 rfl))
                        (try (have c48kf := erewhilelaw33_CaltokSums.bbff c48b0 rfl))
                        (try (have c48b1 : decide (((bt t250 (ji23)) == 104) = ((Int.tmod (wrap64 (Int.tmod a0 536870912)) 60) == 0)) = false := by simpa using c48))
                        (try (have c48b2 : (((bt t250 (ji23)) == 104) == ((Int.tmod (wrap64 (Int.tmod a0 536870912)) 60) == 0)) = false := by simpa using c48))
                        (try (have c48b3 : ¬ (((bt t250 (ji23)) == 104) = ((Int.tmod (wrap64 (Int.tmod a0 536870912)) 60) == 0)) := by simpa using c48))
                        clear c48
                        obtain rfl := Option.some.inj H
                        go_wp2_with (first | ((with_reducible refine gate_callee (f := 13) rfl ?_); refine goesL_ (some 61) rfl rfl Tryd.func13 (by kernel_rfl) rfl #[.int .i64 (wrap64 (Int.tmod a0 536870912))] rfl (by (try simp only [List.map_toArray, List.map_cons, List.map_nil]); first | done | rfl | (simp only [List.length_drop, List.length_take]; rfl)) ?_; (with_reducible refine (caltok_Text.calls kj10 (wrap64 (Int.tmod a0 536870912)) t250 _ ?sideT A20.out).mono ?_); (case sideT => exact Tab.below HT.out (by repeat (first | (with_reducible first | exact HB.out | apply below_alloc | apply pw_below_drewN | apply below_drew1) | exact HB.out))); rintro e w52 ⟨rfl, hb⟩; refine ⟨_, rfl, ?_⟩; have n0_ := Aside0.mk (below_step (by repeat (first | (with_reducible first | exact HB.out | apply below_alloc | apply pw_below_drewN | apply below_drew1) | exact HB.out)) hb); clear HB; have HB := n0_; clear n0_; (try clear hb); (try clear hb2); (try clear hk); (try clear hi); have p26 : 0 ≤ ((ji23) : Int) := of_decide_eq_true (by first | (with_reducible assumption) | assumption); have q26 : (ji23) < (t250.size : Int) := of_decide_eq_true (by first | (with_reducible assumption) | assumption); have hx26 := bt_at t250 (ji23); replace p26 := eq_true p26; replace q26 := eq_true q26))
                        go_ret
                        exact ⟨by first | rfl | (simp [errW_none, errW_some] <;> rfl) | (simp only [← hji23]; first | rfl | (simp [errW_none, errW_some] <;> rfl)) | (simp [*, errW_none, errW_some] <;> rfl), by repeat (first | (with_reducible first | exact HB.out | apply below_alloc | apply pw_below_drewN | apply below_drew1) | exact HB.out)⟩
                  · rw [if_neg c41] at H
                    have c41b0 : (((bt t250 (ji23)) == 100) == false) = false := by simpa using c41
                    (try (have c41k := erewhilelaw33_CaltokSums.bbf c41b0 rfl))
                    (try (have c41kf := erewhilelaw33_CaltokSums.bbff c41b0 rfl))
                    (try (have c41b1 : decide (((bt t250 (ji23)) == 100) = false) = false := by simpa using c41))
                    (try (have c41b2 : (((bt t250 (ji23)) == 100) == false) = false := by simpa using c41))
                    (try (have c41b3 : ¬ (((bt t250 (ji23)) == 100) = false) := by simpa using c41))
                    clear c41
                    obtain rfl := Option.some.inj H
                    go_wp2_with (first | ((with_reducible refine gate_callee (f := 13) rfl ?_); refine goesL_ (some 61) rfl rfl Tryd.func13 (by kernel_rfl) rfl #[.int .i64 (wrap64 (Int.tmod a0 536870912))] rfl (by (try simp only [List.map_toArray, List.map_cons, List.map_nil]); first | done | rfl | (simp only [List.length_drop, List.length_take]; rfl)) ?_; (with_reducible refine (caltok_Text.calls kj10 (wrap64 (Int.tmod a0 536870912)) t250 _ ?sideT A20.out).mono ?_); (case sideT => exact Tab.below HT.out (by repeat (first | (with_reducible first | exact HB.out | apply below_alloc | apply pw_below_drewN | apply below_drew1) | exact HB.out))); rintro e w53 ⟨rfl, hb⟩; refine ⟨_, rfl, ?_⟩; have n0_ := Aside0.mk (below_step (by repeat (first | (with_reducible first | exact HB.out | apply below_alloc | apply pw_below_drewN | apply below_drew1) | exact HB.out)) hb); clear HB; have HB := n0_; clear n0_; (try clear hb); (try clear hb2); (try clear hk); (try clear hi); have p26 : 0 ≤ ((ji23) : Int) := of_decide_eq_true (by first | (with_reducible assumption) | assumption); have q26 : (ji23) < (t250.size : Int) := of_decide_eq_true (by first | (with_reducible assumption) | assumption); have hx26 := bt_at t250 (ji23); replace p26 := eq_true p26; replace q26 := eq_true q26))
                    go_ret
                    exact ⟨by first | rfl | (simp [errW_none, errW_some] <;> rfl) | (simp only [← hji23]; first | rfl | (simp [errW_none, errW_some] <;> rfl)) | (simp [*, errW_none, errW_some] <;> rfl), by repeat (first | (with_reducible first | exact HB.out | apply below_alloc | apply pw_below_drewN | apply below_drew1) | exact HB.out)⟩
              · rw [if_neg c25] at H
                exact absurd H (by simp)
            · rw [if_neg c24] at H
              exact absurd H (by simp)
  · replace c4 := Bool.eq_false_iff.mpr c4
    subst c4
    have H1 : (some false) = some r := by rw [if_neg (show ¬ (false = true) by decide)] at H; exact H
    clear H
    have H := H1
    clear H1
    obtain rfl := Option.some.inj H
    go_enter Tryd.func7, Tryd.ntmps7
    go_wp2_with (first | ((with_reducible refine gate_callee (f := 9) rfl ?_); refine goesL_ (some 15) rfl rfl Tryd.func9 (by kernel_rfl) rfl #[] rfl (by (try simp only [List.map_toArray, List.map_cons, List.map_nil]); first | done | rfl | (simp only [List.length_drop, List.length_take]; rfl)) ?_; (with_reducible refine (erewhilelaw33_awake.calls k  false _ ?sideU A3.out).mono ?_); (case sideU => exact Units.below HU.out (by repeat (first | (with_reducible first | exact HB.out | apply below_alloc | apply pw_below_drewN | apply below_drew1) | exact HB.out))); rintro e w54 ⟨rfl, hb⟩; refine ⟨_, rfl, ?_⟩; have n0_ := Aside0.mk (below_step (by repeat (first | (with_reducible first | exact HB.out | apply below_alloc | apply pw_below_drewN | apply below_drew1) | exact HB.out)) hb); clear HB; have HB := n0_; clear n0_; (try clear hb); (try clear hb2); (try clear hk); (try clear hi)))
    go_ret
    exact ⟨by first | rfl | (simp [errW_none, errW_some] <;> rfl) | (simp [*, errW_none, errW_some] <;> rfl), by repeat (first | (with_reducible first | exact HB.out | apply below_alloc | apply pw_below_drewN | apply below_drew1) | exact HB.out)⟩


end Go.Proofs.YtmmkbdampdkjoaaDoor.All
