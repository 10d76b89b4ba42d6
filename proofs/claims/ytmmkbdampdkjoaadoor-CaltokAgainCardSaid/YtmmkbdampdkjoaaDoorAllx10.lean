-- Printed by a program (wip/mkprint.sh over the kit's print.py) out of the translation; Lean checks it.
import Derived.Test.YtmmkbdampdkjoaaDoorAllx0
import Derived.Test.YtmmkbdampdkjoaaDoorAgainLex
import Derived.Test.YtmmkbdampdkjoaaDoorAllx3
import Derived.Test.YtmmkbdampdkjoaaDoorAllx4
namespace Go.Proofs.YtmmkbdampdkjoaaDoor.All
open Go.RowKit Go.Proofs.YtmmkbdampdkjoaaDoorW.PrintWords Go.Proofs.YtmmkbdampdkjoaaDoorW.PrintLast Go.Proofs.YtmmkbdampdkjoaaDoorW.PrintMore
attribute [local go_sem] max2_int min2_int max_two min_two max_three min_three max_four min_four   -- for this text's walks alone
set_option linter.unusedVariables false
set_option linter.unusedSimpArgs false

/-! ### erewhilelaw33_CaltokAgain: function 4 -/
mutual
def erewhilelaw33_CaltokAgain.l0 : Nat → ByteArray → List (S33) → ByteArray → Int → Option (Bool)
  | 0, _, _, _, _ => none
  | k + 1, x0, x3, x6, x7 => if x7 < (x3.length : Int) then (if 0 ≤ x7 then (if ((rd_T33 x3 x7).f0) = 3 then (if x6.size + 1 ≤ 9223372036854775807 then (erewhilelaw33_CaltokAgain.l0 k x0 x3 (x6 ++ (⟨#[10]⟩ : ByteArray)) (wrap64 (x7 + 1))) else (none)) else (if ((rd_T33 x3 x7).f1).size + 1 ≤ 9223372036854775807 then (if x6.size + (((rd_T33 x3 x7).f1) ++ (⟨#[32]⟩ : ByteArray)).size ≤ 9223372036854775807 then (erewhilelaw33_CaltokAgain.l0 k x0 x3 (x6 ++ (((rd_T33 x3 x7).f1) ++ (⟨#[32]⟩ : ByteArray))) (wrap64 (x7 + 1))) else (none)) else (none))) else (none)) else ((caltok_Lex.f k x6).bind fun bt184 => (if bt184.2.2 = 0 then (erewhilelaw33_CaltokAgain.j1 k x0 x3 bt184.1 ((bt184.1.length : Int) != (x3.length : Int))) else (erewhilelaw33_CaltokAgain.j1 k x0 x3 bt184.1 true)))
def erewhilelaw33_CaltokAgain.j1 : Nat → ByteArray → List (S33) → List (S33) → Bool → Option (Bool)
  | 0, _, _, _, _ => none
  | k + 1, x0, x3, x8, x63 => if x63 = true then (some false) else (erewhilelaw33_CaltokAgain.l1 k x0 x3 x8 0)
def erewhilelaw33_CaltokAgain.l1 : Nat → ByteArray → List (S33) → List (S33) → Int → Option (Bool)
  | 0, _, _, _, _ => none
  | k + 1, x0, x3, x8, x11 => if x11 < (x3.length : Int) then (if 0 ≤ x11 then (if x11 < (x8.length : Int) then (if ((rd_T33 x3 x11).f0) = ((rd_T33 x8 x11).f0) then (if ((rd_T33 x3 x11).f1).toList = ((rd_T33 x8 x11).f1).toList then (if ((rd_T33 x3 x11).f2) = ((rd_T33 x8 x11).f2) then (if ((rd_T33 x3 x11).f3) < 0 then (some false) else (if ((rd_T33 x3 x11).f3) > (x0.size : Int) then (some false) else (if x11 > 0 then (if 0 ≤ (wrap64 (x11 - 1)) then (if (wrap64 (x11 - 1)) < (x3.length : Int) then (if ((rd_T33 x3 x11).f3) < (wrap64 (((rd_T33 x3 (wrap64 (x11 - 1))).f3) + (((rd_T33 x3 (wrap64 (x11 - 1))).f1).size : Int))) then (some false) else (if 0 ≤ ((rd_T33 x3 x11).f3) then (if ((rd_T33 x3 x11).f3) ≤ (wrap64 (((rd_T33 x3 x11).f3) + (((rd_T33 x3 x11).f1).size : Int))) then (if (wrap64 (((rd_T33 x3 x11).f3) + (((rd_T33 x3 x11).f1).size : Int))) ≤ (x0.size : Int) then (if (x0.extract (((rd_T33 x3 x11).f3) : Int).toNat ((wrap64 (((rd_T33 x3 x11).f3) + (((rd_T33 x3 x11).f1).size : Int))) : Int).toNat).toList = ((rd_T33 x3 x11).f1).toList then (erewhilelaw33_CaltokAgain.l1 k x0 x3 x8 (wrap64 (x11 + 1))) else (some false)) else (none)) else (none)) else (none))) else (none)) else (none)) else (if 0 ≤ ((rd_T33 x3 x11).f3) then (if ((rd_T33 x3 x11).f3) ≤ (wrap64 (((rd_T33 x3 x11).f3) + (((rd_T33 x3 x11).f1).size : Int))) then (if (wrap64 (((rd_T33 x3 x11).f3) + (((rd_T33 x3 x11).f1).size : Int))) ≤ (x0.size : Int) then (if (x0.extract (((rd_T33 x3 x11).f3) : Int).toNat ((wrap64 (((rd_T33 x3 x11).f3) + (((rd_T33 x3 x11).f1).size : Int))) : Int).toNat).toList = ((rd_T33 x3 x11).f1).toList then (erewhilelaw33_CaltokAgain.l1 k x0 x3 x8 (wrap64 (x11 + 1))) else (some false)) else (none)) else (none)) else (none))))) else (some false)) else (some false)) else (some false)) else (none)) else (none)) else (some true)
end
def erewhilelaw33_CaltokAgain.f (k : Nat) (a0 : ByteArray) : Option (Bool) := (erewhilelaw33_awake.f k).bind fun t176 => (if t176 = true then (if (a0.size : Int) > 300 then (some true) else ((caltok_Lex.f k a0).bind fun bt177 => (if bt177.2.2 = 0 then (erewhilelaw33_CaltokAgain.l0 k a0 bt177.1 (⟨#[]⟩ : ByteArray) 0) else (some (bt177.2.2 == 17))))) else (some false))
theorem erewhilelaw33_CaltokAgain.mono_l : ∀ k, (∀ y0 y1 y2 y3, LeO (erewhilelaw33_CaltokAgain.l0 k y0 y1 y2 y3) (erewhilelaw33_CaltokAgain.l0 (k + 1) y0 y1 y2 y3)) ∧ (∀ y0 y1 y2 y3, LeO (erewhilelaw33_CaltokAgain.j1 k y0 y1 y2 y3) (erewhilelaw33_CaltokAgain.j1 (k + 1) y0 y1 y2 y3)) ∧ (∀ y0 y1 y2 y3, LeO (erewhilelaw33_CaltokAgain.l1 k y0 y1 y2 y3) (erewhilelaw33_CaltokAgain.l1 (k + 1) y0 y1 y2 y3))
  | 0 => ⟨fun _ _ _ _ r h => by simp [erewhilelaw33_CaltokAgain.l0] at h, fun _ _ _ _ r h => by simp [erewhilelaw33_CaltokAgain.j1] at h, fun _ _ _ _ r h => by simp [erewhilelaw33_CaltokAgain.l1] at h⟩
  | k + 1 => by
    obtain ⟨ih0, ih1, ih2⟩ := erewhilelaw33_CaltokAgain.mono_l k
    refine ⟨?_, ?_, ?_⟩
    · intro y0 y1 y2 y3
      unfold erewhilelaw33_CaltokAgain.l0
      repeat' first
      | (with_reducible exact ih0 _ _ _ _)
      | (with_reducible exact ih1 _ _ _ _)
      | (with_reducible exact ih2 _ _ _ _)
      | (with_reducible exact caltok_Lex.mono _ _)
      | (with_reducible exact erewhilelaw33_awake.mono _)
      | (with_reducible exact LeO.refl _)
      | (with_reducible exact LeO.none _)
      | (with_reducible refine LeO.ite ?_ ?_)
      | (with_reducible refine LeO.bind ?_ (fun _ => ?_))
      | exact ih0 _ _ _ _
      | exact ih1 _ _ _ _
      | exact ih2 _ _ _ _
      | exact caltok_Lex.mono _ _
      | exact erewhilelaw33_awake.mono _
      | exact LeO.none _
      | refine LeO.ite ?_ ?_
      | refine LeO.bind ?_ (fun _ => ?_)
    · intro y0 y1 y2 y3
      unfold erewhilelaw33_CaltokAgain.j1
      repeat' first
      | (with_reducible exact ih0 _ _ _ _)
      | (with_reducible exact ih1 _ _ _ _)
      | (with_reducible exact ih2 _ _ _ _)
      | (with_reducible exact caltok_Lex.mono _ _)
      | (with_reducible exact erewhilelaw33_awake.mono _)
      | (with_reducible exact LeO.refl _)
      | (with_reducible exact LeO.none _)
      | (with_reducible refine LeO.ite ?_ ?_)
      | (with_reducible refine LeO.bind ?_ (fun _ => ?_))
      | exact ih0 _ _ _ _
      | exact ih1 _ _ _ _
      | exact ih2 _ _ _ _
      | exact caltok_Lex.mono _ _
      | exact erewhilelaw33_awake.mono _
      | exact LeO.none _
      | refine LeO.ite ?_ ?_
      | refine LeO.bind ?_ (fun _ => ?_)
    · intro y0 y1 y2 y3
      unfold erewhilelaw33_CaltokAgain.l1
      repeat' first
      | (with_reducible exact ih0 _ _ _ _)
      | (with_reducible exact ih1 _ _ _ _)
      | (with_reducible exact ih2 _ _ _ _)
      | (with_reducible exact caltok_Lex.mono _ _)
      | (with_reducible exact erewhilelaw33_awake.mono _)
      | (with_reducible exact LeO.refl _)
      | (with_reducible exact LeO.none _)
      | (with_reducible refine LeO.ite ?_ ?_)
      | (with_reducible refine LeO.bind ?_ (fun _ => ?_))
      | exact ih0 _ _ _ _
      | exact ih1 _ _ _ _
      | exact ih2 _ _ _ _
      | exact caltok_Lex.mono _ _
      | exact erewhilelaw33_awake.mono _
      | exact LeO.none _
      | refine LeO.ite ?_ ?_
      | refine LeO.bind ?_ (fun _ => ?_)
theorem erewhilelaw33_CaltokAgain.mono : ∀ a0 k, LeO (erewhilelaw33_CaltokAgain.f k a0) (erewhilelaw33_CaltokAgain.f (k + 1) a0) := by
  intro a0 k
  obtain ⟨ih0, ih1, ih2⟩ := erewhilelaw33_CaltokAgain.mono_l k
  unfold erewhilelaw33_CaltokAgain.f
  repeat' first
      | (with_reducible exact ih0 _ _ _ _)
      | (with_reducible exact ih1 _ _ _ _)
      | (with_reducible exact ih2 _ _ _ _)
      | (with_reducible exact caltok_Lex.mono _ _)
      | (with_reducible exact erewhilelaw33_awake.mono _)
      | (with_reducible exact LeO.refl _)
      | (with_reducible exact LeO.none _)
      | (with_reducible refine LeO.ite ?_ ?_)
      | (with_reducible refine LeO.bind ?_ (fun _ => ?_))
      | exact ih0 _ _ _ _
      | exact ih1 _ _ _ _
      | exact ih2 _ _ _ _
      | exact caltok_Lex.mono _ _
      | exact erewhilelaw33_awake.mono _
      | exact LeO.none _
      | refine LeO.ite ?_ ?_
      | refine LeO.bind ?_ (fun _ => ?_)
set_option maxHeartbeats 0 in
set_option maxRecDepth 100000 in
theorem erewhilelaw33_CaltokAgain.calls (k : Nat) (a0 : ByteArray) (r : Bool) (w : World) (hU : Units w) (h : erewhilelaw33_CaltokAgain.f k a0 = some r) :
    Calls Tryd.prog 4 #[.string a0] w fun e w' => e = .returned (.bool r) ∧ Below w.heap.size w w' := by
  have HB := Aside0.mk (Below.refl w.heap.size w)
  have HU := Aside0.mk hU
  clear hU
  have H : ((erewhilelaw33_awake.f k).bind fun t176 => (if t176 = true then (if (a0.size : Int) > 300 then (some true) else ((caltok_Lex.f k a0).bind fun bt177 => (if bt177.2.2 = 0 then (erewhilelaw33_CaltokAgain.l0 k a0 bt177.1 (⟨#[]⟩ : ByteArray) 0) else (some (bt177.2.2 == 17))))) else (some false))) = some r := h
  clear h
  replace H := Option.bind_eq_some_iff.mp H
  obtain ⟨t176, A20, H⟩ := H
  replace H : (if t176 = true then (if (a0.size : Int) > 300 then (some true) else ((caltok_Lex.f k a0).bind fun bt177 => (if bt177.2.2 = 0 then (erewhilelaw33_CaltokAgain.l0 k a0 bt177.1 (⟨#[]⟩ : ByteArray) 0) else (some (bt177.2.2 == 17))))) else (some false)) = some r := H
  have A2 := Aside0.mk A20
  clear A20
  by_cases c3 : t176 = true
  · subst c3
    have H1 : (if (a0.size : Int) > 300 then (some true) else ((caltok_Lex.f k a0).bind fun bt177 => (if bt177.2.2 = 0 then (erewhilelaw33_CaltokAgain.l0 k a0 bt177.1 (⟨#[]⟩ : ByteArray) 0) else (some (bt177.2.2 == 17))))) = some r := by rw [if_pos rfl] at H; exact H
    clear H
    have H := H1
    clear H1
    by_cases c4 : (a0.size : Int) > 300
    · rw [if_pos c4] at H
      have c4b0 : decide (300 < (a0.size : Int)) = true := decide_eq_true c4
      have c4b1 : decide (300 < a0.size) = true := decide_eq_true (by omega)
      clear c4
      obtain rfl := Option.some.inj H
      go_enter Tryd.func4, Tryd.ntmps4
      go_wp2_with (first | (go_at_call 9; (with_reducible refine (erewhilelaw33_awake.calls k  true _ ?sideU A2.out).mono ?_); (case sideU => exact Units.below HU.out (by repeat (first | (with_reducible first | exact HB.out | apply below_alloc | apply pw_below_drewN | apply below_drew1) | exact HB.out))); rintro e w5 ⟨rfl, hb⟩; have n0_ := Aside0.mk (below_step (by repeat (first | (with_reducible first | exact HB.out | apply below_alloc | apply pw_below_drewN | apply below_drew1) | exact HB.out)) hb); clear HB; have HB := n0_; clear n0_; (try clear hb); (try clear hb2); (try clear hk); (try clear hi)))
      repeat (go_quiet (first | (go_at_call 9; (with_reducible refine (erewhilelaw33_awake.calls k  true _ ?sideU A2.out).mono ?_); (case sideU => exact Units.below HU.out (by repeat (first | (with_reducible first | exact HB.out | apply below_alloc | apply pw_below_drewN | apply below_drew1) | exact HB.out))); rintro e w5 ⟨rfl, hb⟩; have n0_ := Aside0.mk (below_step (by repeat (first | (with_reducible first | exact HB.out | apply below_alloc | apply pw_below_drewN | apply below_drew1) | exact HB.out)) hb); clear HB; have HB := n0_; clear n0_; (try clear hb); (try clear hb2); (try clear hk); (try clear hi))); try go_wp2_with (first | (go_at_call 9; (with_reducible refine (erewhilelaw33_awake.calls k  true _ ?sideU A2.out).mono ?_); (case sideU => exact Units.below HU.out (by repeat (first | (with_reducible first | exact HB.out | apply below_alloc | apply pw_below_drewN | apply below_drew1) | exact HB.out))); rintro e w5 ⟨rfl, hb⟩; have n0_ := Aside0.mk (below_step (by repeat (first | (with_reducible first | exact HB.out | apply below_alloc | apply pw_below_drewN | apply below_drew1) | exact HB.out)) hb); clear HB; have HB := n0_; clear n0_; (try clear hb); (try clear hb2); (try clear hk); (try clear hi))))
      go_ret
      exact ⟨by first | rfl | (simp [errW_none, errW_some] <;> rfl) | (simp [*, errW_none, errW_some] <;> rfl), by repeat (first | (with_reducible first | exact HB.out | apply below_alloc | apply pw_below_drewN | apply below_drew1) | exact HB.out)⟩
    · rw [if_neg c4] at H
      have c4b0 : decide (300 < (a0.size : Int)) = false := decide_eq_false c4
      have c4b1 : decide (300 < a0.size) = false := decide_eq_false (by omega)
      clear c4
      replace H := Option.bind_eq_some_iff.mp H
      obtain ⟨⟨t177, t178, t179⟩, A60, H⟩ := H
      replace H : (if t179 = 0 then (erewhilelaw33_CaltokAgain.l0 k a0 t177 (⟨#[]⟩ : ByteArray) 0) else (some (t179 == 17))) = some r := H
      have A6 := Aside0.mk A60
      clear A60
      by_cases c7 : t179 = 0
      · rw [if_pos c7] at H
        have c7b0 : (t179 == 0) = true := beq_iff_eq.mpr c7
        have c7b1 : (t179 != 0) = false := bne_eq_false_iff_eq.mpr c7
        clear c7
        have H' := Aside0.mk H
        clear H
        go_enter Tryd.func4, Tryd.ntmps4
        go_wp2_with (first | (go_at_call 9; (with_reducible refine (erewhilelaw33_awake.calls k  true _ ?sideU A2.out).mono ?_); (case sideU => exact Units.below HU.out (by repeat (first | (with_reducible first | exact HB.out | apply below_alloc | apply pw_below_drewN | apply below_drew1) | exact HB.out))); rintro e w8 ⟨rfl, hb⟩; have n0_ := Aside0.mk (below_step (by repeat (first | (with_reducible first | exact HB.out | apply below_alloc | apply pw_below_drewN | apply below_drew1) | exact HB.out)) hb); clear HB; have HB := n0_; clear n0_; (try clear hb); (try clear hb2); (try clear hk); (try clear hi)) | (go_at_call 10; (with_reducible refine (caltok_Lex.calls k a0 t177 t178 t179 _ ?sideU A6.out).mono ?_); (case sideU => exact Units.below HU.out (by repeat (first | (with_reducible first | exact HB.out | apply below_alloc | apply pw_below_drewN | apply below_drew1) | exact HB.out))); rintro e w9 ⟨v180, rfl, ho0, hb⟩; have n0_ := Aside0.mk (Kd.R_lower ho0 (below_size (by repeat (first | (with_reducible first | exact HB.out | apply below_alloc | apply pw_below_drewN | apply below_drew1) | exact HB.out)))); have n1_ := Aside0.mk (below_step (by repeat (first | (with_reducible first | exact HB.out | apply below_alloc | apply pw_below_drewN | apply below_drew1) | exact HB.out)) hb); clear HB; have HO181 := n0_; have HB := n1_; clear n0_ n1_; (try clear hb); (try clear hb2); (try clear hk); (try clear hi); (try clear ho0)))
        repeat (go_quiet (first | (go_at_call 9; (with_reducible refine (erewhilelaw33_awake.calls k  true _ ?sideU A2.out).mono ?_); (case sideU => exact Units.below HU.out (by repeat (first | (with_reducible first | exact HB.out | apply below_alloc | apply pw_below_drewN | apply below_drew1) | exact HB.out))); rintro e w8 ⟨rfl, hb⟩; have n0_ := Aside0.mk (below_step (by repeat (first | (with_reducible first | exact HB.out | apply below_alloc | apply pw_below_drewN | apply below_drew1) | exact HB.out)) hb); clear HB; have HB := n0_; clear n0_; (try clear hb); (try clear hb2); (try clear hk); (try clear hi)) | (go_at_call 10; (with_reducible refine (caltok_Lex.calls k a0 t177 t178 t179 _ ?sideU A6.out).mono ?_); (case sideU => exact Units.below HU.out (by repeat (first | (with_reducible first | exact HB.out | apply below_alloc | apply pw_below_drewN | apply below_drew1) | exact HB.out))); rintro e w9 ⟨v180, rfl, ho0, hb⟩; have n0_ := Aside0.mk (Kd.R_lower ho0 (below_size (by repeat (first | (with_reducible first | exact HB.out | apply below_alloc | apply pw_below_drewN | apply below_drew1) | exact HB.out)))); have n1_ := Aside0.mk (below_step (by repeat (first | (with_reducible first | exact HB.out | apply below_alloc | apply pw_below_drewN | apply below_drew1) | exact HB.out)) hb); clear HB; have HO181 := n0_; have HB := n1_; clear n0_ n1_; (try clear hb); (try clear hb2); (try clear hk); (try clear hi); (try clear ho0))); try go_wp2_with (first | (go_at_call 9; (with_reducible refine (erewhilelaw33_awake.calls k  true _ ?sideU A2.out).mono ?_); (case sideU => exact Units.below HU.out (by repeat (first | (with_reducible first | exact HB.out | apply below_alloc | apply pw_below_drewN | apply below_drew1) | exact HB.out))); rintro e w8 ⟨rfl, hb⟩; have n0_ := Aside0.mk (below_step (by repeat (first | (with_reducible first | exact HB.out | apply below_alloc | apply pw_below_drewN | apply below_drew1) | exact HB.out)) hb); clear HB; have HB := n0_; clear n0_; (try clear hb); (try clear hb2); (try clear hk); (try clear hi)) | (go_at_call 10; (with_reducible refine (caltok_Lex.calls k a0 t177 t178 t179 _ ?sideU A6.out).mono ?_); (case sideU => exact Units.below HU.out (by repeat (first | (with_reducible first | exact HB.out | apply below_alloc | apply pw_below_drewN | apply below_drew1) | exact HB.out))); rintro e w9 ⟨v180, rfl, ho0, hb⟩; have n0_ := Aside0.mk (Kd.R_lower ho0 (below_size (by repeat (first | (with_reducible first | exact HB.out | apply below_alloc | apply pw_below_drewN | apply below_drew1) | exact HB.out)))); have n1_ := Aside0.mk (below_step (by repeat (first | (with_reducible first | exact HB.out | apply below_alloc | apply pw_below_drewN | apply below_drew1) | exact HB.out)) hb); clear HB; have HO181 := n0_; have HB := n1_; clear n0_ n1_; (try clear hb); (try clear hb2); (try clear hk); (try clear hi); (try clear ho0))))
        go_loopg [6, 7] k (fun kq v6 v7 w' => ∃ (x6_1 : ByteArray) (x7_1 : Int), v6 = .string x6_1 ∧ v7 = .int .i64 x7_1 ∧ Aside0 (erewhilelaw33_CaltokAgain.l0 kq a0 t177 x6_1 x7_1 = some r) ∧ Aside0 (kq ≤ k) ∧ Aside0 (Kd.R k33 33 w' w.heap.size (fun _ => True) v180 t177) ∧ Aside0 (Below w.heap.size w w'))
        case atStart => exact ⟨((⟨#[]⟩ : ByteArray)), (0), (by first | rfl | (simp; done) | (simp [*]; done)), (by first | rfl | (simp; done) | (simp [*]; done)), H', ⟨Nat.le_refl _⟩, ⟨by (with_reducible repeat (first | apply Kd.R_alloc | apply Kd.R_drewN | apply Kd.R_drew)); exact HO181.out⟩, ⟨by repeat (first | (with_reducible first | exact HB.out | apply below_alloc | apply pw_below_drewN | apply below_drew1) | exact HB.out)⟩⟩
        case round => as_aux_lemma =>
          clear H'
          try clear p2
          try clear c3
          try clear c4
          try clear c4b0
          try clear c4b1
          try clear c7
          try clear c7b0
          try clear c7b1
          obtain ⟨x6_1, x7_1, rfl, rfl, HA, HK1, HO_3, HB⟩ := hrel
          cases gk with
          | zero => exact absurd HA.out (by simp [erewhilelaw33_CaltokAgain.l0])
          | succ k1 =>
            have H := HA.out
            clear HA
            simp only [erewhilelaw33_CaltokAgain.l0] at H
            by_cases c10 : x7_1 < (t177.length : Int)
            · rw [if_pos c10] at H
              have c10b0 : decide (x7_1 < (t177.length : Int)) = true := decide_eq_true c10
              clear c10
              by_cases c11 : 0 ≤ x7_1
              · rw [if_pos c11] at H
                have c11b0 : decide (0 ≤ x7_1) = true := decide_eq_true c11
                clear c11
                by_cases c12 : ((rd_T33 t177 x7_1).f0) = 3
                · rw [if_pos c12] at H
                  have c12b0 : (((rd_T33 t177 x7_1).f0) == 3) = true := beq_iff_eq.mpr c12
                  have c12b1 : (((rd_T33 t177 x7_1).f0) != 3) = false := bne_eq_false_iff_eq.mpr c12
                  clear c12
                  by_cases c13 : x6_1.size + 1 ≤ 9223372036854775807
                  · rw [if_pos c13] at H
                    have c13b0 := eq_true c13
                    have c13b1 : decide (x6_1.size + 1 ≤ 9223372036854775807) = true := decide_eq_true c13
                    try have c13b2 : (9223372036854775807 < x6_1.size + 1) = False := eq_false (Nat.not_lt.2 c13)
                    have H' := Aside0.mk H
                    clear H
                    obtain ⟨Ao14, co14, eo14⟩ := Kd.R_slice HO_3.out
                    subst eo14
                    have p182 : 0 ≤ (x7_1 : Int) := of_decide_eq_true (by first | (with_reducible assumption) | assumption)
                    have q182 : x7_1 < (t177.length : Int) := of_decide_eq_true (by first | (with_reducible assumption) | assumption)
                    obtain ⟨ad182, e182, hx182_0, hx182_1, hx182_2, hx182_3⟩ := at_T33 (Kd.R_reads' HO_3.out).2.2 x7_1 p182 q182
                    cases e182
                    replace p182 := eq_true p182
                    replace q182 := eq_true q182
                    go_wp2
                    repeat (go_quiet (fail); try go_wp2)
                    go_roundg k1
                    case measure => have := HK1.out; omega
                    case rel => exact ⟨(x6_1 ++ (⟨#[10]⟩ : ByteArray)), (wrap64 (x7_1 + 1)), (by first | rfl | (simp; done) | (simp [*]; done)), (by first | rfl | (simp; done) | (simp [*]; done)), H', ⟨by have := HK1.out; omega⟩, ⟨by (with_reducible repeat (first | apply Kd.R_alloc | apply Kd.R_drewN | apply Kd.R_drew)); exact HO_3.out⟩, ⟨by repeat (first | (with_reducible first | exact HB.out | apply below_alloc | apply pw_below_drewN | apply below_drew1) | exact HB.out)⟩⟩
                  · rw [if_neg c13] at H
                    exact absurd H (by simp)
                · rw [if_neg c12] at H
                  have c12b0 : (((rd_T33 t177 x7_1).f0) == 3) = false := beq_eq_false_iff_ne.mpr c12
                  have c12b1 : (((rd_T33 t177 x7_1).f0) != 3) = true := bne_iff_ne.mpr c12
                  by_cases c15 : ((rd_T33 t177 x7_1).f1).size + 1 ≤ 9223372036854775807
                  · rw [if_pos c15] at H
                    have c15b0 := eq_true c15
                    have c15b1 : decide (((rd_T33 t177 x7_1).f1).size + 1 ≤ 9223372036854775807) = true := decide_eq_true c15
                    try have c15b2 : (9223372036854775807 < ((rd_T33 t177 x7_1).f1).size + 1) = False := eq_false (Nat.not_lt.2 c15)
                    by_cases c16 : x6_1.size + (((rd_T33 t177 x7_1).f1) ++ (⟨#[32]⟩ : ByteArray)).size ≤ 9223372036854775807
                    · rw [if_pos c16] at H
                      have c16b0 := eq_true c16
                      have c16b1 : decide (x6_1.size + (((rd_T33 t177 x7_1).f1) ++ (⟨#[32]⟩ : ByteArray)).size ≤ 9223372036854775807) = true := decide_eq_true c16
                      try have c16b2 : (9223372036854775807 < x6_1.size + (((rd_T33 t177 x7_1).f1) ++ (⟨#[32]⟩ : ByteArray)).size) = False := eq_false (Nat.not_lt.2 c16)
                      have H' := Aside0.mk H
                      clear H
                      obtain ⟨Ao17, co17, eo17⟩ := Kd.R_slice HO_3.out
                      subst eo17
                      have p182 : 0 ≤ (x7_1 : Int) := of_decide_eq_true (by first | (with_reducible assumption) | assumption)
                      have q182 : x7_1 < (t177.length : Int) := of_decide_eq_true (by first | (with_reducible assumption) | assumption)
                      obtain ⟨ad182, e182, hx182_0, hx182_1, hx182_2, hx182_3⟩ := at_T33 (Kd.R_reads' HO_3.out).2.2 x7_1 p182 q182
                      cases e182
                      replace p182 := eq_true p182
                      replace q182 := eq_true q182
                      have p183 : 0 ≤ (x7_1 : Int) := of_decide_eq_true (by first | (with_reducible assumption) | assumption)
                      have q183 : x7_1 < (t177.length : Int) := of_decide_eq_true (by first | (with_reducible assumption) | assumption)
                      obtain ⟨ad183, e183, hx183_0, hx183_1, hx183_2, hx183_3⟩ := at_T33 (Kd.R_reads' HO_3.out).2.2 x7_1 p183 q183
                      obtain rfl : ad182 = ad183 := (by injection e183)
                      replace p183 := eq_true p183
                      replace q183 := eq_true q183
                      go_wp2
                      repeat (go_quiet (fail); try go_wp2)
                      go_roundg k1
                      case measure => have := HK1.out; omega
                      case rel => exact ⟨(x6_1 ++ (((rd_T33 t177 x7_1).f1) ++ (⟨#[32]⟩ : ByteArray))), (wrap64 (x7_1 + 1)), (by first | rfl | (simp; done) | (simp [*]; done)), (by first | rfl | (simp; done) | (simp [*]; done)), H', ⟨by have := HK1.out; omega⟩, ⟨by (with_reducible repeat (first | apply Kd.R_alloc | apply Kd.R_drewN | apply Kd.R_drew)); exact HO_3.out⟩, ⟨by repeat (first | (with_reducible first | exact HB.out | apply below_alloc | apply pw_below_drewN | apply below_drew1) | exact HB.out)⟩⟩
                    · rw [if_neg c16] at H
                      exact absurd H (by simp)
                  · rw [if_neg c15] at H
                    exact absurd H (by simp)
              · rw [if_neg c11] at H
                exact absurd H (by simp)
            · rw [if_neg c10] at H
              have c10b0 : decide (x7_1 < (t177.length : Int)) = false := decide_eq_false c10
              clear c10
              replace H := Option.bind_eq_some_iff.mp H
              obtain ⟨⟨t184, t185, t186⟩, A180, H⟩ := H
              replace H : (if t186 = 0 then (erewhilelaw33_CaltokAgain.j1 k1 a0 t177 t184 ((t184.length : Int) != (t177.length : Int))) else (erewhilelaw33_CaltokAgain.j1 k1 a0 t177 t184 true)) = some r := H
              have A18 := Aside0.mk A180
              clear A180
              have HC19 := Aside0.mk H
              clear H
              obtain ⟨Ao20, co20, eo20⟩ := Kd.R_slice HO_3.out
              subst eo20
              go_upto_region 16 with (first | (go_at_call 10; (with_reducible refine (caltok_Lex.calls k1 x6_1 t184 t185 t186 _ ?sideU A18.out).mono ?_); (case sideU => exact Units.below HU.out (by repeat (first | (with_reducible first | exact HB.out | apply below_alloc | apply pw_below_drewN | apply below_drew1) | exact HB.out))); rintro e w21 ⟨v187, rfl, ho0, hb⟩; have n0_ := Aside0.mk (Kd.R_elder' (by (with_reducible repeat (first | apply Kd.R_alloc | apply Kd.R_drewN | apply Kd.R_drew)); exact HO_3.out) (Kd.R_base ho0) hb); have n1_ := Aside0.mk (Kd.R_lower (Kd.R_new' ho0 (Kd.R_lt (by (with_reducible repeat (first | apply Kd.R_alloc | apply Kd.R_drewN | apply Kd.R_drew)); exact HO_3.out))) (below_size (by repeat (first | (with_reducible first | exact HB.out | apply below_alloc | apply pw_below_drewN | apply below_drew1) | exact HB.out)))); have n2_ := Aside0.mk (below_step (by repeat (first | (with_reducible first | exact HB.out | apply below_alloc | apply pw_below_drewN | apply below_drew1) | exact HB.out)) hb); clear HO_3; clear HB; have HO_3 := n0_; have HO188 := n1_; have HB := n2_; clear n0_ n1_ n2_; (try clear hb); (try clear hb2); (try clear hk); (try clear hi); (try clear ho0)))
              repeat (go_quiet (first | (go_at_call 10; (with_reducible refine (caltok_Lex.calls k1 x6_1 t184 t185 t186 _ ?sideU A18.out).mono ?_); (case sideU => exact Units.below HU.out (by repeat (first | (with_reducible first | exact HB.out | apply below_alloc | apply pw_below_drewN | apply below_drew1) | exact HB.out))); rintro e w21 ⟨v187, rfl, ho0, hb⟩; have n0_ := Aside0.mk (Kd.R_elder' (by (with_reducible repeat (first | apply Kd.R_alloc | apply Kd.R_drewN | apply Kd.R_drew)); exact HO_3.out) (Kd.R_base ho0) hb); have n1_ := Aside0.mk (Kd.R_lower (Kd.R_new' ho0 (Kd.R_lt (by (with_reducible repeat (first | apply Kd.R_alloc | apply Kd.R_drewN | apply Kd.R_drew)); exact HO_3.out))) (below_size (by repeat (first | (with_reducible first | exact HB.out | apply below_alloc | apply pw_below_drewN | apply below_drew1) | exact HB.out)))); have n2_ := Aside0.mk (below_step (by repeat (first | (with_reducible first | exact HB.out | apply below_alloc | apply pw_below_drewN | apply below_drew1) | exact HB.out)) hb); clear HO_3; clear HB; have HO_3 := n0_; have HO188 := n1_; have HB := n2_; clear n0_ n1_ n2_; (try clear hb); (try clear hb2); (try clear hk); (try clear hi); (try clear ho0))); go_upto_region 16 with (first | (go_at_call 10; (with_reducible refine (caltok_Lex.calls k1 x6_1 t184 t185 t186 _ ?sideU A18.out).mono ?_); (case sideU => exact Units.below HU.out (by repeat (first | (with_reducible first | exact HB.out | apply below_alloc | apply pw_below_drewN | apply below_drew1) | exact HB.out))); rintro e w21 ⟨v187, rfl, ho0, hb⟩; have n0_ := Aside0.mk (Kd.R_elder' (by (with_reducible repeat (first | apply Kd.R_alloc | apply Kd.R_drewN | apply Kd.R_drew)); exact HO_3.out) (Kd.R_base ho0) hb); have n1_ := Aside0.mk (Kd.R_lower (Kd.R_new' ho0 (Kd.R_lt (by (with_reducible repeat (first | apply Kd.R_alloc | apply Kd.R_drewN | apply Kd.R_drew)); exact HO_3.out))) (below_size (by repeat (first | (with_reducible first | exact HB.out | apply below_alloc | apply pw_below_drewN | apply below_drew1) | exact HB.out)))); have n2_ := Aside0.mk (below_step (by repeat (first | (with_reducible first | exact HB.out | apply below_alloc | apply pw_below_drewN | apply below_drew1) | exact HB.out)) hb); clear HO_3; clear HB; have HO_3 := n0_; have HO188 := n1_; have HB := n2_; clear n0_ n1_ n2_; (try clear hb); (try clear hb2); (try clear hk); (try clear hi); (try clear ho0))))
              (try simp only [Act.put, List.setIfInBounds_toArray, List.set_cons_zero, List.set_cons_succ])
              go_cut [63] (fun v63 wc => ∃ (kq : Nat) (x63_18 : Bool), v63 = .bool x63_18 ∧ Aside0 (erewhilelaw33_CaltokAgain.j1 kq a0 t177 t184 x63_18 = some r) ∧ Aside0 (kq ≤ k1) ∧ Aside0 (Kd.R k33 33 wc w.heap.size (fun k_ => some k_ ≠ (v187 : Value).ownBlock) (.slice Ao20 t177.length co20) t177) ∧ Aside0 (Kd.R k33 33 wc w.heap.size (fun k_ => some k_ ≠ ((.slice Ao20 t177.length co20) : Value).ownBlock) v187 t184) ∧ Aside0 (Below w.heap.size w wc))
              case first =>
                have H := HC19.out
                clear HC19
                by_cases c22 : t186 = 0
                · rw [if_pos c22] at H
                  have c22b0 : (t186 == 0) = true := beq_iff_eq.mpr c22
                  have c22b1 : (t186 != 0) = false := bne_eq_false_iff_eq.mpr c22
                  clear c22
                  (first | rw [c22b0] | (simp only [i64_w, i32_w]; rw [c22b0]) | skip)
                  have H' := Aside0.mk H
                  clear H
                  obtain ⟨Ao23, co23, eo23⟩ := Kd.R_slice HO188.out
                  subst eo23
                  go_wp2
                  repeat (go_quiet (fail); try go_wp2)
                  go_meet
                  case rel => exact ⟨_, (((t184.length : Int) != (t177.length : Int))), (by first | rfl | (simp; done) | (simp [*]; done)), H', ⟨by have := HK1.out; first | omega | exact Nat.le_refl _⟩, ⟨by (with_reducible repeat (first | apply Kd.R_alloc | apply Kd.R_drewN | apply Kd.R_drew)); exact Kd.R_mono HO_3.out (fun _ hk => hk.2)⟩, ⟨by (with_reducible repeat (first | apply Kd.R_alloc | apply Kd.R_drewN | apply Kd.R_drew)); exact Kd.R_mono HO188.out (fun _ hk => hk.2)⟩, ⟨by repeat (first | (with_reducible first | exact HB.out | apply below_alloc | apply pw_below_drewN | apply below_drew1) | exact HB.out)⟩⟩
                · rw [if_neg c22] at H
                  have c22b0 : (t186 == 0) = false := beq_eq_false_iff_ne.mpr c22
                  have c22b1 : (t186 != 0) = true := bne_iff_ne.mpr c22
                  (first | rw [c22b0] | (simp only [i64_w, i32_w]; rw [c22b0]) | skip)
                  have H' := Aside0.mk H
                  clear H
                  go_wp2
                  repeat (go_quiet (fail); try go_wp2)
                  go_meet
                  case rel => exact ⟨_, (true), (by first | rfl | (simp; done) | (simp [*]; done)), H', ⟨by have := HK1.out; first | omega | exact Nat.le_refl _⟩, ⟨by (with_reducible repeat (first | apply Kd.R_alloc | apply Kd.R_drewN | apply Kd.R_drew)); exact Kd.R_mono HO_3.out (fun _ hk => hk.2)⟩, ⟨by (with_reducible repeat (first | apply Kd.R_alloc | apply Kd.R_drewN | apply Kd.R_drew)); exact Kd.R_mono HO188.out (fun _ hk => hk.2)⟩, ⟨by repeat (first | (with_reducible first | exact HB.out | apply below_alloc | apply pw_below_drewN | apply below_drew1) | exact HB.out)⟩⟩
              case rest => as_aux_lemma =>
                clear HC19
                try clear c1
                try clear p1
                try clear q1
                try clear hx1
                try clear c2
                try clear p2
                try clear c3
                try clear c4
                try clear c4b0
                try clear c4b1
                try clear p6
                try clear c7
                try clear c7b0
                try clear c7b1
                try clear c10
                try clear c10b0
                try clear c11
                try clear c11b0
                try clear c12
                try clear c12b0
                try clear c12b1
                try clear c13
                try clear c13b0
                try clear c13b1
                try clear c13b2
                try clear c15
                try clear c15b0
                try clear c15b1
                try clear c15b2
                try clear c16
                try clear c16b0
                try clear c16b1
                try clear c16b2
                try clear p18
                try clear q18
                try clear hx18
                try clear c22
                try clear c22b0
                try clear c22b1
                try clear hx182_0
                try clear hx182_1
                try clear hx182_2
                try clear hx182_3
                try clear hx183_0
                try clear hx183_1
                try clear hx183_2
                try clear hx183_3
                try clear p182
                try clear p183
                try clear p2
                try clear q182
                try clear q183
                obtain ⟨kq, x63_18, rfl, HA, HJ18, HO_3, HO_8, HB⟩ := hcut
                cases kq with
                | zero => exact absurd HA.out (by simp [erewhilelaw33_CaltokAgain.j1])
                | succ kj18 =>
                  have H := HA.out
                  clear HA
                  simp only [erewhilelaw33_CaltokAgain.j1] at H
                  by_cases c24 : x63_18 = true
                  · subst c24
                    have H1 : (some false) = some r := by rw [if_pos rfl] at H; exact H
                    clear H
                    have H := H1
                    clear H1
                    obtain rfl := Option.some.inj H
                    go_wp2
                    repeat (go_quiet (fail); try go_wp2)
                    go_ret
                    exact ⟨by first | rfl | (simp [errW_none, errW_some] <;> rfl) | (simp [*, errW_none, errW_some] <;> rfl), by repeat (first | (with_reducible first | exact HB.out | apply below_alloc | apply pw_below_drewN | apply below_drew1) | exact HB.out)⟩
                  · replace c24 := Bool.eq_false_iff.mpr c24
                    subst c24
                    have H1 : (erewhilelaw33_CaltokAgain.l1 kj18 a0 t177 t184 0) = some r := by rw [if_neg (show ¬ (false = true) by decide)] at H; exact H
                    clear H
                    have H := H1
                    clear H1
                    have H' := Aside0.mk H
                    clear H
                    go_wp2
                    repeat (go_quiet (fail); try go_wp2)
                    go_loopg [11] kj18 (fun kq v11 w' => ∃ (x11_3 : Int), v11 = .int .i64 x11_3 ∧ Aside0 (erewhilelaw33_CaltokAgain.l1 kq a0 t177 t184 x11_3 = some r) ∧ Aside0 (kq ≤ kj18) ∧ Aside0 (Kd.R k33 33 w' w.heap.size (fun k_ => some k_ ≠ (v187 : Value).ownBlock) (.slice Ao20 t177.length co20) t177) ∧ Aside0 (Kd.R k33 33 w' w.heap.size (fun k_ => some k_ ≠ ((.slice Ao20 t177.length co20) : Value).ownBlock) v187 t184) ∧ Aside0 (Below w.heap.size w w'))
                    case atStart => exact ⟨(0), (by first | rfl | (simp; done) | (simp [*]; done)), H', ⟨Nat.le_refl _⟩, ⟨by (with_reducible repeat (first | apply Kd.R_alloc | apply Kd.R_drewN | apply Kd.R_drew)); exact HO_3.out⟩, ⟨by (with_reducible repeat (first | apply Kd.R_alloc | apply Kd.R_drewN | apply Kd.R_drew)); exact HO_8.out⟩, ⟨by repeat (first | (with_reducible first | exact HB.out | apply below_alloc | apply pw_below_drewN | apply below_drew1) | exact HB.out)⟩⟩
                    case round => as_aux_lemma =>
                      clear H'
                      try clear c1
                      try clear p1
                      try clear q1
                      try clear hx1
                      try clear c2
                      try clear p2
                      try clear c3
                      try clear c4
                      try clear c4b0
                      try clear c4b1
                      try clear p6
                      try clear c7
                      try clear c7b0
                      try clear c7b1
                      try clear c10
                      try clear c10b0
                      try clear c11
                      try clear c11b0
                      try clear c12
                      try clear c12b0
                      try clear c12b1
                      try clear c13
                      try clear c13b0
                      try clear c13b1
                      try clear c13b2
                      try clear c15
                      try clear c15b0
                      try clear c15b1
                      try clear c15b2
                      try clear c16
                      try clear c16b0
                      try clear c16b1
                      try clear c16b2
                      try clear p18
                      try clear q18
                      try clear hx18
                      try clear c22
                      try clear c22b0
                      try clear c22b1
                      try clear c24
                      try clear hx182_0
                      try clear hx182_1
                      try clear hx182_2
                      try clear hx182_3
                      try clear hx183_0
                      try clear hx183_1
                      try clear hx183_2
                      try clear hx183_3
                      try clear p1
                      try clear p18
                      try clear p182
                      try clear p183
                      try clear p2
                      try clear p6
                      try clear q1
                      try clear q18
                      try clear q182
                      try clear q183
                      obtain ⟨x11_3, rfl, HA, HK3, HO_3, HO_8, HB⟩ := hrel
                      cases gk with
                      | zero => exact absurd HA.out (by simp [erewhilelaw33_CaltokAgain.l1])
                      | succ k3 =>
                        have H := HA.out
                        clear HA
                        simp only [erewhilelaw33_CaltokAgain.l1] at H
                        by_cases c25 : x11_3 < (t177.length : Int)
                        · as_aux_lemma =>
                          rw [if_pos c25] at H
                          have c25b0 : decide (x11_3 < (t177.length : Int)) = true := decide_eq_true c25
                          clear c25
                          by_cases c26 : 0 ≤ x11_3
                          · as_aux_lemma =>
                            rw [if_pos c26] at H
                            have c26b0 : decide (0 ≤ x11_3) = true := decide_eq_true c26
                            clear c26
                            by_cases c27 : x11_3 < (t184.length : Int)
                            · as_aux_lemma =>
                              rw [if_pos c27] at H
                              have c27b0 : decide (x11_3 < (t184.length : Int)) = true := decide_eq_true c27
                              clear c27
                              by_cases c28 : ((rd_T33 t177 x11_3).f0) = ((rd_T33 t184 x11_3).f0)
                              · as_aux_lemma =>
                                rw [if_pos c28] at H
                                have c28b0 : (((rd_T33 t177 x11_3).f0) == ((rd_T33 t184 x11_3).f0)) = true := beq_iff_eq.mpr c28
                                have c28b1 : (((rd_T33 t177 x11_3).f0) != ((rd_T33 t184 x11_3).f0)) = false := bne_eq_false_iff_eq.mpr c28
                                clear c28
                                by_cases c29 : ((rd_T33 t177 x11_3).f1).toList = ((rd_T33 t184 x11_3).f1).toList
                                · as_aux_lemma =>
                                  rw [if_pos c29] at H
                                  have c29b0 : (((rd_T33 t177 x11_3).f1).toList == ((rd_T33 t184 x11_3).f1).toList) = true := beq_iff_eq.mpr c29
                                  have c29b1 : (((rd_T33 t177 x11_3).f1).toList != ((rd_T33 t184 x11_3).f1).toList) = false := bne_eq_false_iff_eq.mpr c29
                                  clear c29
                                  by_cases c30 : ((rd_T33 t177 x11_3).f2) = ((rd_T33 t184 x11_3).f2)
                                  · as_aux_lemma =>
                                    rw [if_pos c30] at H
                                    have c30b0 : (((rd_T33 t177 x11_3).f2) == ((rd_T33 t184 x11_3).f2)) = true := beq_iff_eq.mpr c30
                                    have c30b1 : (((rd_T33 t177 x11_3).f2) != ((rd_T33 t184 x11_3).f2)) = false := bne_eq_false_iff_eq.mpr c30
                                    clear c30
                                    by_cases c31 : ((rd_T33 t177 x11_3).f3) < 0
                                    · as_aux_lemma =>
                                      rw [if_pos c31] at H
                                      have c31b0 : decide (((rd_T33 t177 x11_3).f3) < 0) = true := decide_eq_true c31
                                      clear c31
                                      obtain rfl := Option.some.inj H
                                      have p189 : 0 ≤ (x11_3 : Int) := of_decide_eq_true (by first | (with_reducible assumption) | assumption)
                                      have q189 : x11_3 < (t177.length : Int) := of_decide_eq_true (by first | (with_reducible assumption) | assumption)
                                      obtain ⟨ad189, e189, hx189_0, hx189_1, hx189_2, hx189_3⟩ := at_T33 (Kd.R_reads' HO_3.out).2.2 x11_3 p189 q189
                                      cases e189
                                      replace p189 := eq_true p189
                                      replace q189 := eq_true q189
                                      obtain ⟨Ao32, co32, eo32⟩ := Kd.R_slice HO_8.out
                                      subst eo32
                                      have p190 : 0 ≤ (x11_3 : Int) := of_decide_eq_true (by first | (with_reducible assumption) | assumption)
                                      have q190 : x11_3 < (t184.length : Int) := of_decide_eq_true (by first | (with_reducible assumption) | assumption)
                                      obtain ⟨ad190, e190, hx190_0, hx190_1, hx190_2, hx190_3⟩ := at_T33 (Kd.R_reads' HO_8.out).2.2 x11_3 p190 q190
                                      cases e190
                                      replace p190 := eq_true p190
                                      replace q190 := eq_true q190
                                      have p191 : 0 ≤ (x11_3 : Int) := of_decide_eq_true (by first | (with_reducible assumption) | assumption)
                                      have q191 : x11_3 < (t177.length : Int) := of_decide_eq_true (by first | (with_reducible assumption) | assumption)
                                      obtain ⟨ad191, e191, hx191_0, hx191_1, hx191_2, hx191_3⟩ := at_T33 (Kd.R_reads' HO_3.out).2.2 x11_3 p191 q191
                                      obtain rfl : ad189 = ad191 := (by injection e191)
                                      replace p191 := eq_true p191
                                      replace q191 := eq_true q191
                                      have p192 : 0 ≤ (x11_3 : Int) := of_decide_eq_true (by first | (with_reducible assumption) | assumption)
                                      have q192 : x11_3 < (t184.length : Int) := of_decide_eq_true (by first | (with_reducible assumption) | assumption)
                                      obtain ⟨ad192, e192, hx192_0, hx192_1, hx192_2, hx192_3⟩ := at_T33 (Kd.R_reads' HO_8.out).2.2 x11_3 p192 q192
                                      obtain rfl : ad190 = ad192 := (by injection e192)
                                      replace p192 := eq_true p192
                                      replace q192 := eq_true q192
                                      have p193 : 0 ≤ (x11_3 : Int) := of_decide_eq_true (by first | (with_reducible assumption) | assumption)
                                      have q193 : x11_3 < (t177.length : Int) := of_decide_eq_true (by first | (with_reducible assumption) | assumption)
                                      obtain ⟨ad193, e193, hx193_0, hx193_1, hx193_2, hx193_3⟩ := at_T33 (Kd.R_reads' HO_3.out).2.2 x11_3 p193 q193
                                      obtain rfl : ad189 = ad193 := (by injection e193)
                                      replace p193 := eq_true p193
                                      replace q193 := eq_true q193
                                      have p194 : 0 ≤ (x11_3 : Int) := of_decide_eq_true (by first | (with_reducible assumption) | assumption)
                                      have q194 : x11_3 < (t184.length : Int) := of_decide_eq_true (by first | (with_reducible assumption) | assumption)
                                      obtain ⟨ad194, e194, hx194_0, hx194_1, hx194_2, hx194_3⟩ := at_T33 (Kd.R_reads' HO_8.out).2.2 x11_3 p194 q194
                                      obtain rfl : ad190 = ad194 := (by injection e194)
                                      replace p194 := eq_true p194
                                      replace q194 := eq_true q194
                                      have p195 : 0 ≤ (x11_3 : Int) := of_decide_eq_true (by first | (with_reducible assumption) | assumption)
                                      have q195 : x11_3 < (t177.length : Int) := of_decide_eq_true (by first | (with_reducible assumption) | assumption)
                                      obtain ⟨ad195, e195, hx195_0, hx195_1, hx195_2, hx195_3⟩ := at_T33 (Kd.R_reads' HO_3.out).2.2 x11_3 p195 q195
                                      obtain rfl : ad189 = ad195 := (by injection e195)
                                      replace p195 := eq_true p195
                                      replace q195 := eq_true q195
                                      go_wp2
                                      refine wp_region_quiet_lit (by kernel_rfl) again_lexB ?_
                                      go_big_quiet_step (fail)
                                      go_big_quiet_step (fail)
                                      go_big_quiet_step (fail)
                                      go_big_quiet_step (fail)
                                      go_big_quiet_step (fail)
                                      go_big_quiet_step (fail)
                                      go_big_quiet_step (fail)
                                      go_big_quiet_step (fail)
                                      as_aux_lemma =>
                                      go_big_quiet_step (fail)
                                      go_big_quiet_step (fail)
                                      go_big_quiet_step (fail)
                                      go_big_quiet_step (fail)
                                      go_big_quiet_step (fail)
                                      go_big_quiet_step (fail)
                                      go_big_quiet_step (fail)
                                      go_big_quiet_step (fail)
                                      as_aux_lemma =>
                                      go_big_quiet_step (fail)
                                      go_big_quiet_step (fail)
                                      go_big_quiet_step (fail)
                                      go_big_quiet_step (fail)
                                      go_big_quiet_step (fail)
                                      go_big_quiet_step (fail)
                                      go_big_quiet_step (fail)
                                      go_big_quiet_step (fail)
                                      as_aux_lemma =>
                                      go_big_quiet_step (fail)
                                      go_big_quiet_step (fail)
                                      go_big_quiet_step (fail)
                                      go_big_quiet_step (fail)
                                      go_big_quiet_step (fail)
                                      go_big_quiet_step (fail)
                                      go_big_quiet_step (fail)
                                      go_big_quiet_step (fail)
                                      as_aux_lemma =>
                                      go_big_quiet_step (fail)
                                      go_big_quiet_step (fail)
                                      go_big_quiet_step (fail)
                                      go_big_quiet_step (fail)
                                      go_big_quiet_step (fail)
                                      go_big_quiet_step (fail)
                                      go_big_quiet_step (fail)
                                      go_big_quiet_step (fail)
                                      as_aux_lemma =>
                                      go_big_quiet_step (fail)
                                      go_big_quiet_step (fail)
                                      go_big_quiet_step (fail)
                                      go_big_quiet_step (fail)
                                      go_big_quiet_step (fail)
                                      go_big_quiet_step (fail)
                                      go_big_quiet_step (fail)
                                      go_big_quiet_step (fail)
                                      as_aux_lemma =>
                                      go_big_quiet_step (fail)
                                      go_big_quiet_step (fail)
                                      go_big_quiet_step (fail)
                                      go_big_quiet_step (fail)
                                      go_big_quiet_step (fail)
                                      go_big_quiet_step (fail)
                                      go_big_quiet_step (fail)
                                      go_big_quiet_step (fail)
                                      as_aux_lemma =>
                                      go_big_quiet_step (fail)
                                      go_big_quiet_step (fail)
                                      go_big_quiet_step (fail)
                                      go_big_quiet_step (fail)
                                      go_big_quiet_step (fail)
                                      go_big_quiet_step (fail)
                                      go_big_quiet_step (fail)
                                      go_big_quiet_step (fail)
                                      as_aux_lemma =>
                                      go_big_quiet_step (fail)
                                      go_big_quiet_step (fail)
                                      go_big_quiet_step (fail)
                                      go_big_quiet_step (fail)
                                      go_big_quiet_step (fail)
                                      go_big_quiet_step (fail)
                                      go_big_quiet_step (fail)
                                      go_big_quiet_step (fail)
                                      as_aux_lemma =>
                                      go_big_quiet_step (fail)
                                      go_big_quiet_step (fail)
                                      go_big_quiet_step (fail)
                                      go_big_quiet_step (fail)
                                      go_big_quiet_step (fail)
                                      go_big_quiet_step (fail)
                                      go_big_quiet_step (fail)
                                      go_big_quiet_step (fail)
                                      as_aux_lemma =>
                                      go_big_quiet_step (fail)
                                      go_big_quiet_step (fail)
                                      go_big_quiet_step (fail)
                                      go_big_quiet_step (fail)
                                      go_big_quiet_step (fail)
                                      go_big_quiet_step (fail)
                                      go_big_quiet_step (fail)
                                      go_big_quiet_step (fail)
                                      as_aux_lemma =>
                                      go_big_quiet_step (fail)
                                      go_big_quiet_step (fail)
                                      go_big_quiet_step (fail)
                                      go_big_quiet_step (fail)
                                      go_big_quiet_step (fail)
                                      go_big_quiet_step (fail)
                                      go_big_quiet_step (fail)
                                      go_big_quiet_step (fail)
                                      as_aux_lemma =>
                                      go_big_quiet_step (fail)
                                      go_big_quiet_step (fail)
                                      go_big_quiet_step (fail)
                                      go_big_quiet_step (fail)
                                      go_big_quiet_step (fail)
                                      go_big_quiet_step (fail)
                                      go_big_quiet_step (fail)
                                      go_big_quiet_step (fail)
                                      as_aux_lemma =>
                                      go_big_quiet_step (fail)
                                      go_big_quiet_step (fail)
                                      go_big_quiet_step (fail)
                                      go_big_quiet_step (fail)
                                      as_aux_lemma =>
                                      refine wpQuiet_nil ?_
                                      intro _ hw'
                                      obtain ⟨nq, hw''⟩ := hw'
                                      subst hw''
                                      try go_wp2
                                      go_ret
                                      exact ⟨by first | rfl | (simp [errW_none, errW_some] <;> rfl) | (simp [*, errW_none, errW_some] <;> rfl), by repeat (first | (with_reducible first | exact HB.out | apply below_alloc | apply pw_below_drewN | apply below_drew1) | exact HB.out)⟩
                                    · as_aux_lemma =>
                                      rw [if_neg c31] at H
                                      have c31b0 : decide (((rd_T33 t177 x11_3).f3) < 0) = false := decide_eq_false c31
                                      clear c31
                                      by_cases c33 : ((rd_T33 t177 x11_3).f3) > (a0.size : Int)
                                      · as_aux_lemma =>
                                        rw [if_pos c33] at H
                                        have c33b0 : decide ((a0.size : Int) < ((rd_T33 t177 x11_3).f3)) = true := decide_eq_true c33
                                        clear c33
                                        obtain rfl := Option.some.inj H
                                        have p189 : 0 ≤ (x11_3 : Int) := of_decide_eq_true (by first | (with_reducible assumption) | assumption)
                                        have q189 : x11_3 < (t177.length : Int) := of_decide_eq_true (by first | (with_reducible assumption) | assumption)
                                        obtain ⟨ad189, e189, hx189_0, hx189_1, hx189_2, hx189_3⟩ := at_T33 (Kd.R_reads' HO_3.out).2.2 x11_3 p189 q189
                                        cases e189
                                        replace p189 := eq_true p189
                                        replace q189 := eq_true q189
                                        obtain ⟨Ao34, co34, eo34⟩ := Kd.R_slice HO_8.out
                                        subst eo34
                                        have p190 : 0 ≤ (x11_3 : Int) := of_decide_eq_true (by first | (with_reducible assumption) | assumption)
                                        have q190 : x11_3 < (t184.length : Int) := of_decide_eq_true (by first | (with_reducible assumption) | assumption)
                                        obtain ⟨ad190, e190, hx190_0, hx190_1, hx190_2, hx190_3⟩ := at_T33 (Kd.R_reads' HO_8.out).2.2 x11_3 p190 q190
                                        cases e190
                                        replace p190 := eq_true p190
                                        replace q190 := eq_true q190
                                        have p191 : 0 ≤ (x11_3 : Int) := of_decide_eq_true (by first | (with_reducible assumption) | assumption)
                                        have q191 : x11_3 < (t177.length : Int) := of_decide_eq_true (by first | (with_reducible assumption) | assumption)
                                        obtain ⟨ad191, e191, hx191_0, hx191_1, hx191_2, hx191_3⟩ := at_T33 (Kd.R_reads' HO_3.out).2.2 x11_3 p191 q191
                                        obtain rfl : ad189 = ad191 := (by injection e191)
                                        replace p191 := eq_true p191
                                        replace q191 := eq_true q191
                                        have p192 : 0 ≤ (x11_3 : Int) := of_decide_eq_true (by first | (with_reducible assumption) | assumption)
                                        have q192 : x11_3 < (t184.length : Int) := of_decide_eq_true (by first | (with_reducible assumption) | assumption)
                                        obtain ⟨ad192, e192, hx192_0, hx192_1, hx192_2, hx192_3⟩ := at_T33 (Kd.R_reads' HO_8.out).2.2 x11_3 p192 q192
                                        obtain rfl : ad190 = ad192 := (by injection e192)
                                        replace p192 := eq_true p192
                                        replace q192 := eq_true q192
                                        have p193 : 0 ≤ (x11_3 : Int) := of_decide_eq_true (by first | (with_reducible assumption) | assumption)
                                        have q193 : x11_3 < (t177.length : Int) := of_decide_eq_true (by first | (with_reducible assumption) | assumption)
                                        obtain ⟨ad193, e193, hx193_0, hx193_1, hx193_2, hx193_3⟩ := at_T33 (Kd.R_reads' HO_3.out).2.2 x11_3 p193 q193
                                        obtain rfl : ad189 = ad193 := (by injection e193)
                                        replace p193 := eq_true p193
                                        replace q193 := eq_true q193
                                        have p194 : 0 ≤ (x11_3 : Int) := of_decide_eq_true (by first | (with_reducible assumption) | assumption)
                                        have q194 : x11_3 < (t184.length : Int) := of_decide_eq_true (by first | (with_reducible assumption) | assumption)
                                        obtain ⟨ad194, e194, hx194_0, hx194_1, hx194_2, hx194_3⟩ := at_T33 (Kd.R_reads' HO_8.out).2.2 x11_3 p194 q194
                                        obtain rfl : ad190 = ad194 := (by injection e194)
                                        replace p194 := eq_true p194
                                        replace q194 := eq_true q194
                                        have p195 : 0 ≤ (x11_3 : Int) := of_decide_eq_true (by first | (with_reducible assumption) | assumption)
                                        have q195 : x11_3 < (t177.length : Int) := of_decide_eq_true (by first | (with_reducible assumption) | assumption)
                                        obtain ⟨ad195, e195, hx195_0, hx195_1, hx195_2, hx195_3⟩ := at_T33 (Kd.R_reads' HO_3.out).2.2 x11_3 p195 q195
                                        obtain rfl : ad189 = ad195 := (by injection e195)
                                        replace p195 := eq_true p195
                                        replace q195 := eq_true q195
                                        have p196 : 0 ≤ (x11_3 : Int) := of_decide_eq_true (by first | (with_reducible assumption) | assumption)
                                        have q196 : x11_3 < (t177.length : Int) := of_decide_eq_true (by first | (with_reducible assumption) | assumption)
                                        obtain ⟨ad196, e196, hx196_0, hx196_1, hx196_2, hx196_3⟩ := at_T33 (Kd.R_reads' HO_3.out).2.2 x11_3 p196 q196
                                        obtain rfl : ad189 = ad196 := (by injection e196)
                                        replace p196 := eq_true p196
                                        replace q196 := eq_true q196
                                        go_wp2
                                        refine wp_region_quiet_lit (by kernel_rfl) again_lexB ?_
                                        go_big_quiet_step (fail)
                                        go_big_quiet_step (fail)
                                        go_big_quiet_step (fail)
                                        go_big_quiet_step (fail)
                                        go_big_quiet_step (fail)
                                        go_big_quiet_step (fail)
                                        go_big_quiet_step (fail)
                                        go_big_quiet_step (fail)
                                        as_aux_lemma =>
                                        go_big_quiet_step (fail)
                                        go_big_quiet_step (fail)
                                        go_big_quiet_step (fail)
                                        go_big_quiet_step (fail)
                                        go_big_quiet_step (fail)
                                        go_big_quiet_step (fail)
                                        go_big_quiet_step (fail)
                                        go_big_quiet_step (fail)
                                        as_aux_lemma =>
                                        go_big_quiet_step (fail)
                                        go_big_quiet_step (fail)
                                        go_big_quiet_step (fail)
                                        go_big_quiet_step (fail)
                                        go_big_quiet_step (fail)
                                        go_big_quiet_step (fail)
                                        go_big_quiet_step (fail)
                                        go_big_quiet_step (fail)
                                        as_aux_lemma =>
                                        go_big_quiet_step (fail)
                                        go_big_quiet_step (fail)
                                        go_big_quiet_step (fail)
                                        go_big_quiet_step (fail)
                                        go_big_quiet_step (fail)
                                        go_big_quiet_step (fail)
                                        go_big_quiet_step (fail)
                                        go_big_quiet_step (fail)
                                        as_aux_lemma =>
                                        go_big_quiet_step (fail)
                                        go_big_quiet_step (fail)
                                        go_big_quiet_step (fail)
                                        go_big_quiet_step (fail)
                                        go_big_quiet_step (fail)
                                        go_big_quiet_step (fail)
                                        go_big_quiet_step (fail)
                                        go_big_quiet_step (fail)
                                        as_aux_lemma =>
                                        go_big_quiet_step (fail)
                                        go_big_quiet_step (fail)
                                        go_big_quiet_step (fail)
                                        go_big_quiet_step (fail)
                                        go_big_quiet_step (fail)
                                        go_big_quiet_step (fail)
                                        go_big_quiet_step (fail)
                                        go_big_quiet_step (fail)
                                        as_aux_lemma =>
                                        go_big_quiet_step (fail)
                                        go_big_quiet_step (fail)
                                        go_big_quiet_step (fail)
                                        go_big_quiet_step (fail)
                                        go_big_quiet_step (fail)
                                        go_big_quiet_step (fail)
                                        go_big_quiet_step (fail)
                                        go_big_quiet_step (fail)
                                        as_aux_lemma =>
                                        go_big_quiet_step (fail)
                                        go_big_quiet_step (fail)
                                        go_big_quiet_step (fail)
                                        go_big_quiet_step (fail)
                                        go_big_quiet_step (fail)
                                        go_big_quiet_step (fail)
                                        go_big_quiet_step (fail)
                                        go_big_quiet_step (fail)
                                        as_aux_lemma =>
                                        go_big_quiet_step (fail)
                                        go_big_quiet_step (fail)
                                        go_big_quiet_step (fail)
                                        go_big_quiet_step (fail)
                                        go_big_quiet_step (fail)
                                        go_big_quiet_step (fail)
                                        go_big_quiet_step (fail)
                                        go_big_quiet_step (fail)
                                        as_aux_lemma =>
                                        go_big_quiet_step (fail)
                                        go_big_quiet_step (fail)
                                        go_big_quiet_step (fail)
                                        go_big_quiet_step (fail)
                                        go_big_quiet_step (fail)
                                        go_big_quiet_step (fail)
                                        go_big_quiet_step (fail)
                                        go_big_quiet_step (fail)
                                        as_aux_lemma =>
                                        go_big_quiet_step (fail)
                                        go_big_quiet_step (fail)
                                        go_big_quiet_step (fail)
                                        go_big_quiet_step (fail)
                                        go_big_quiet_step (fail)
                                        go_big_quiet_step (fail)
                                        go_big_quiet_step (fail)
                                        go_big_quiet_step (fail)
                                        as_aux_lemma =>
                                        go_big_quiet_step (fail)
                                        go_big_quiet_step (fail)
                                        go_big_quiet_step (fail)
                                        go_big_quiet_step (fail)
                                        go_big_quiet_step (fail)
                                        go_big_quiet_step (fail)
                                        go_big_quiet_step (fail)
                                        go_big_quiet_step (fail)
                                        as_aux_lemma =>
                                        go_big_quiet_step (fail)
                                        go_big_quiet_step (fail)
                                        go_big_quiet_step (fail)
                                        go_big_quiet_step (fail)
                                        go_big_quiet_step (fail)
                                        go_big_quiet_step (fail)
                                        go_big_quiet_step (fail)
                                        go_big_quiet_step (fail)
                                        as_aux_lemma =>
                                        go_big_quiet_step (fail)
                                        go_big_quiet_step (fail)
                                        go_big_quiet_step (fail)
                                        go_big_quiet_step (fail)
                                        as_aux_lemma =>
                                        refine wpQuiet_nil ?_
                                        intro _ hw'
                                        obtain ⟨nq, hw''⟩ := hw'
                                        subst hw''
                                        try go_wp2
                                        go_ret
                                        exact ⟨by first | rfl | (simp [errW_none, errW_some] <;> rfl) | (simp [*, errW_none, errW_some] <;> rfl), by repeat (first | (with_reducible first | exact HB.out | apply below_alloc | apply pw_below_drewN | apply below_drew1) | exact HB.out)⟩
                                      · as_aux_lemma =>
                                        rw [if_neg c33] at H
                                        have c33b0 : decide ((a0.size : Int) < ((rd_T33 t177 x11_3).f3)) = false := decide_eq_false c33
                                        clear c33
                                        by_cases c35 : x11_3 > 0
                                        · as_aux_lemma =>
                                          rw [if_pos c35] at H
                                          have c35b0 : decide (0 < x11_3) = true := decide_eq_true c35
                                          clear c35
                                          obtain ⟨ji36, hji36⟩ : ∃ j_ : Int, (wrap64 (x11_3 - 1)) = j_ := ⟨_, rfl⟩
                                          replace H : (if 0 ≤ (ji36) then (if (ji36) < (t177.length : Int) then (if ((rd_T33 t177 x11_3).f3) < (wrap64 (((rd_T33 t177 (ji36)).f3) + (((rd_T33 t177 (ji36)).f1).size : Int))) then (some false) else (if 0 ≤ ((rd_T33 t177 x11_3).f3) then (if ((rd_T33 t177 x11_3).f3) ≤ (wrap64 (((rd_T33 t177 x11_3).f3) + (((rd_T33 t177 x11_3).f1).size : Int))) then (if (wrap64 (((rd_T33 t177 x11_3).f3) + (((rd_T33 t177 x11_3).f1).size : Int))) ≤ (a0.size : Int) then (if (a0.extract (((rd_T33 t177 x11_3).f3) : Int).toNat ((wrap64 (((rd_T33 t177 x11_3).f3) + (((rd_T33 t177 x11_3).f1).size : Int))) : Int).toNat).toList = ((rd_T33 t177 x11_3).f1).toList then (erewhilelaw33_CaltokAgain.l1 k3 a0 t177 t184 (wrap64 (x11_3 + 1))) else (some false)) else (none)) else (none)) else (none))) else (none)) else (none)) = some r := by first | (rw [hji36] at H; exact H) | (simp only [hji36] at H ⊢; exact H)
                                          have hji36w : (IntKind.i64.wrap (x11_3 - 1)) = ji36 := (i64_w _).trans hji36
                                          by_cases c37 : 0 ≤ (ji36)
                                          · as_aux_lemma =>
                                            rw [if_pos c37] at H
                                            have c37b0 : decide (0 ≤ (ji36)) = true := decide_eq_true c37
                                            clear c37
                                            by_cases c38 : (ji36) < (t177.length : Int)
                                            · as_aux_lemma =>
                                              rw [if_pos c38] at H
                                              have c38b0 : decide ((ji36) < (t177.length : Int)) = true := decide_eq_true c38
                                              clear c38
                                              by_cases c39 : ((rd_T33 t177 x11_3).f3) < (wrap64 (((rd_T33 t177 (ji36)).f3) + (((rd_T33 t177 (ji36)).f1).size : Int)))
                                              · as_aux_lemma =>
                                                rw [if_pos c39] at H
                                                have c39b0 : decide (((rd_T33 t177 x11_3).f3) < (wrap64 (((rd_T33 t177 (ji36)).f3) + (((rd_T33 t177 (ji36)).f1).size : Int)))) = true := decide_eq_true c39
                                                clear c39
                                                obtain rfl := Option.some.inj H
                                                have p189 : 0 ≤ (x11_3 : Int) := of_decide_eq_true (by first | (with_reducible assumption) | assumption)
                                                have q189 : x11_3 < (t177.length : Int) := of_decide_eq_true (by first | (with_reducible assumption) | assumption)
                                                obtain ⟨ad189, e189, hx189_0, hx189_1, hx189_2, hx189_3⟩ := at_T33 (Kd.R_reads' HO_3.out).2.2 x11_3 p189 q189
                                                cases e189
                                                replace p189 := eq_true p189
                                                replace q189 := eq_true q189
                                                obtain ⟨Ao40, co40, eo40⟩ := Kd.R_slice HO_8.out
                                                subst eo40
                                                have p190 : 0 ≤ (x11_3 : Int) := of_decide_eq_true (by first | (with_reducible assumption) | assumption)
                                                have q190 : x11_3 < (t184.length : Int) := of_decide_eq_true (by first | (with_reducible assumption) | assumption)
                                                obtain ⟨ad190, e190, hx190_0, hx190_1, hx190_2, hx190_3⟩ := at_T33 (Kd.R_reads' HO_8.out).2.2 x11_3 p190 q190
                                                cases e190
                                                replace p190 := eq_true p190
                                                replace q190 := eq_true q190
                                                have p191 : 0 ≤ (x11_3 : Int) := of_decide_eq_true (by first | (with_reducible assumption) | assumption)
                                                have q191 : x11_3 < (t177.length : Int) := of_decide_eq_true (by first | (with_reducible assumption) | assumption)
                                                obtain ⟨ad191, e191, hx191_0, hx191_1, hx191_2, hx191_3⟩ := at_T33 (Kd.R_reads' HO_3.out).2.2 x11_3 p191 q191
                                                obtain rfl : ad189 = ad191 := (by injection e191)
                                                replace p191 := eq_true p191
                                                replace q191 := eq_true q191
                                                have p192 : 0 ≤ (x11_3 : Int) := of_decide_eq_true (by first | (with_reducible assumption) | assumption)
                                                have q192 : x11_3 < (t184.length : Int) := of_decide_eq_true (by first | (with_reducible assumption) | assumption)
                                                obtain ⟨ad192, e192, hx192_0, hx192_1, hx192_2, hx192_3⟩ := at_T33 (Kd.R_reads' HO_8.out).2.2 x11_3 p192 q192
                                                obtain rfl : ad190 = ad192 := (by injection e192)
                                                replace p192 := eq_true p192
                                                replace q192 := eq_true q192
                                                have p193 : 0 ≤ (x11_3 : Int) := of_decide_eq_true (by first | (with_reducible assumption) | assumption)
                                                have q193 : x11_3 < (t177.length : Int) := of_decide_eq_true (by first | (with_reducible assumption) | assumption)
                                                obtain ⟨ad193, e193, hx193_0, hx193_1, hx193_2, hx193_3⟩ := at_T33 (Kd.R_reads' HO_3.out).2.2 x11_3 p193 q193
                                                obtain rfl : ad189 = ad193 := (by injection e193)
                                                replace p193 := eq_true p193
                                                replace q193 := eq_true q193
                                                have p194 : 0 ≤ (x11_3 : Int) := of_decide_eq_true (by first | (with_reducible assumption) | assumption)
                                                have q194 : x11_3 < (t184.length : Int) := of_decide_eq_true (by first | (with_reducible assumption) | assumption)
                                                obtain ⟨ad194, e194, hx194_0, hx194_1, hx194_2, hx194_3⟩ := at_T33 (Kd.R_reads' HO_8.out).2.2 x11_3 p194 q194
                                                obtain rfl : ad190 = ad194 := (by injection e194)
                                                replace p194 := eq_true p194
                                                replace q194 := eq_true q194
                                                have p195 : 0 ≤ (x11_3 : Int) := of_decide_eq_true (by first | (with_reducible assumption) | assumption)
                                                have q195 : x11_3 < (t177.length : Int) := of_decide_eq_true (by first | (with_reducible assumption) | assumption)
                                                obtain ⟨ad195, e195, hx195_0, hx195_1, hx195_2, hx195_3⟩ := at_T33 (Kd.R_reads' HO_3.out).2.2 x11_3 p195 q195
                                                obtain rfl : ad189 = ad195 := (by injection e195)
                                                replace p195 := eq_true p195
                                                replace q195 := eq_true q195
                                                have p196 : 0 ≤ (x11_3 : Int) := of_decide_eq_true (by first | (with_reducible assumption) | assumption)
                                                have q196 : x11_3 < (t177.length : Int) := of_decide_eq_true (by first | (with_reducible assumption) | assumption)
                                                obtain ⟨ad196, e196, hx196_0, hx196_1, hx196_2, hx196_3⟩ := at_T33 (Kd.R_reads' HO_3.out).2.2 x11_3 p196 q196
                                                obtain rfl : ad189 = ad196 := (by injection e196)
                                                replace p196 := eq_true p196
                                                replace q196 := eq_true q196
                                                have p197 : 0 ≤ (x11_3 : Int) := of_decide_eq_true (by first | (with_reducible assumption) | assumption)
                                                have q197 : x11_3 < (t177.length : Int) := of_decide_eq_true (by first | (with_reducible assumption) | assumption)
                                                obtain ⟨ad197, e197, hx197_0, hx197_1, hx197_2, hx197_3⟩ := at_T33 (Kd.R_reads' HO_3.out).2.2 x11_3 p197 q197
                                                obtain rfl : ad189 = ad197 := (by injection e197)
                                                replace p197 := eq_true p197
                                                replace q197 := eq_true q197
                                                have p198 : 0 ≤ ((ji36) : Int) := of_decide_eq_true (by first | (with_reducible assumption) | assumption)
                                                have q198 : (ji36) < (t177.length : Int) := of_decide_eq_true (by first | (with_reducible assumption) | assumption)
                                                obtain ⟨ad198, e198, hx198_0, hx198_1, hx198_2, hx198_3⟩ := at_T33 (Kd.R_reads' HO_3.out).2.2 (ji36) p198 q198
                                                obtain rfl : ad189 = ad198 := (by injection e198)
                                                replace p198 := eq_true p198
                                                replace q198 := eq_true q198
                                                have p199 : 0 ≤ ((ji36) : Int) := of_decide_eq_true (by first | (with_reducible assumption) | assumption)
                                                have q199 : (ji36) < (t177.length : Int) := of_decide_eq_true (by first | (with_reducible assumption) | assumption)
                                                obtain ⟨ad199, e199, hx199_0, hx199_1, hx199_2, hx199_3⟩ := at_T33 (Kd.R_reads' HO_3.out).2.2 (ji36) p199 q199
                                                obtain rfl : ad189 = ad199 := (by injection e199)
                                                replace p199 := eq_true p199
                                                replace q199 := eq_true q199
                                                go_wp2
                                                refine wp_region_quiet_lit (by kernel_rfl) again_lexB ?_
                                                go_big_quiet_step (fail)
                                                go_big_quiet_step (fail)
                                                go_big_quiet_step (fail)
                                                go_big_quiet_step (fail)
                                                go_big_quiet_step (fail)
                                                go_big_quiet_step (fail)
                                                go_big_quiet_step (fail)
                                                go_big_quiet_step (fail)
                                                as_aux_lemma =>
                                                go_big_quiet_step (fail)
                                                go_big_quiet_step (fail)
                                                go_big_quiet_step (fail)
                                                go_big_quiet_step (fail)
                                                go_big_quiet_step (fail)
                                                go_big_quiet_step (fail)
                                                go_big_quiet_step (fail)
                                                go_big_quiet_step (fail)
                                                as_aux_lemma =>
                                                go_big_quiet_step (fail)
                                                go_big_quiet_step (fail)
                                                go_big_quiet_step (fail)
                                                go_big_quiet_step (fail)
                                                go_big_quiet_step (fail)
                                                go_big_quiet_step (fail)
                                                go_big_quiet_step (fail)
                                                go_big_quiet_step (fail)
                                                as_aux_lemma =>
                                                go_big_quiet_step (fail)
                                                go_big_quiet_step (fail)
                                                go_big_quiet_step (fail)
                                                go_big_quiet_step (fail)
                                                go_big_quiet_step (fail)
                                                go_big_quiet_step (fail)
                                                go_big_quiet_step (fail)
                                                go_big_quiet_step (fail)
                                                as_aux_lemma =>
                                                go_big_quiet_step (fail)
                                                go_big_quiet_step (fail)
                                                go_big_quiet_step (fail)
                                                go_big_quiet_step (fail)
                                                go_big_quiet_step (fail)
                                                go_big_quiet_step (fail)
                                                go_big_quiet_step (fail)
                                                go_big_quiet_step (fail)
                                                as_aux_lemma =>
                                                go_big_quiet_step (fail)
                                                go_big_quiet_step (fail)
                                                go_big_quiet_step (fail)
                                                go_big_quiet_step (fail)
                                                go_big_quiet_step (fail)
                                                go_big_quiet_step (fail)
                                                go_big_quiet_step (fail)
                                                go_big_quiet_step (fail)
                                                as_aux_lemma =>
                                                go_big_quiet_step (fail)
                                                go_big_quiet_step (fail)
                                                go_big_quiet_step (fail)
                                                go_big_quiet_step (fail)
                                                go_big_quiet_step (fail)
                                                go_big_quiet_step (fail)
                                                go_big_quiet_step (fail)
                                                go_big_quiet_step (fail)
                                                as_aux_lemma =>
                                                go_big_quiet_step (fail)
                                                go_big_quiet_step (fail)
                                                go_big_quiet_step (fail)
                                                go_big_quiet_step (fail)
                                                go_big_quiet_step (fail)
                                                go_big_quiet_step (fail)
                                                go_big_quiet_step (fail)
                                                go_big_quiet_step (fail)
                                                as_aux_lemma =>
                                                go_big_quiet_step (fail)
                                                go_big_quiet_step (fail)
                                                go_big_quiet_step (fail)
                                                go_big_quiet_step (fail)
                                                go_big_quiet_step (fail)
                                                go_big_quiet_step (fail)
                                                go_big_quiet_step (fail)
                                                go_big_quiet_step (fail)
                                                as_aux_lemma =>
                                                go_big_quiet_step (fail)
                                                go_big_quiet_step (fail)
                                                go_big_quiet_step (fail)
                                                go_big_quiet_step (fail)
                                                go_big_quiet_step (fail)
                                                go_big_quiet_step (fail)
                                                go_big_quiet_step (fail)
                                                go_big_quiet_step (fail)
                                                as_aux_lemma =>
                                                go_big_quiet_step (fail)
                                                go_big_quiet_step (fail)
                                                go_big_quiet_step (fail)
                                                go_big_quiet_step (fail)
                                                go_big_quiet_step (fail)
                                                go_big_quiet_step (fail)
                                                go_big_quiet_step (fail)
                                                go_big_quiet_step (fail)
                                                as_aux_lemma =>
                                                go_big_quiet_step (fail)
                                                go_big_quiet_step (fail)
                                                go_big_quiet_step (fail)
                                                go_big_quiet_step (fail)
                                                go_big_quiet_step (fail)
                                                go_big_quiet_step (fail)
                                                go_big_quiet_step (fail)
                                                go_big_quiet_step (fail)
                                                as_aux_lemma =>
                                                go_big_quiet_step (fail)
                                                go_big_quiet_step (fail)
                                                go_big_quiet_step (fail)
                                                go_big_quiet_step (fail)
                                                go_big_quiet_step (fail)
                                                go_big_quiet_step (fail)
                                                go_big_quiet_step (fail)
                                                go_big_quiet_step (fail)
                                                as_aux_lemma =>
                                                go_big_quiet_step (fail)
                                                go_big_quiet_step (fail)
                                                go_big_quiet_step (fail)
                                                go_big_quiet_step (fail)
                                                as_aux_lemma =>
                                                refine wpQuiet_nil ?_
                                                intro _ hw'
                                                obtain ⟨nq, hw''⟩ := hw'
                                                subst hw''
                                                try go_wp2
                                                go_ret
                                                exact ⟨by first | rfl | (simp [errW_none, errW_some] <;> rfl) | (simp only [← hji36]; first | rfl | (simp [errW_none, errW_some] <;> rfl)) | (simp [*, errW_none, errW_some] <;> rfl), by repeat (first | (with_reducible first | exact HB.out | apply below_alloc | apply pw_below_drewN | apply below_drew1) | exact HB.out)⟩
                                              · as_aux_lemma =>
                                                rw [if_neg c39] at H
                                                have c39b0 : decide (((rd_T33 t177 x11_3).f3) < (wrap64 (((rd_T33 t177 (ji36)).f3) + (((rd_T33 t177 (ji36)).f1).size : Int)))) = false := decide_eq_false c39
                                                clear c39
                                                by_cases c41 : 0 ≤ ((rd_T33 t177 x11_3).f3)
                                                · as_aux_lemma =>
                                                  rw [if_pos c41] at H
                                                  have c41b0 := eq_true c41
                                                  have c41b1 : decide (0 ≤ ((rd_T33 t177 x11_3).f3)) = true := decide_eq_true c41
                                                  clear c41
                                                  by_cases c42 : ((rd_T33 t177 x11_3).f3) ≤ (wrap64 (((rd_T33 t177 x11_3).f3) + (((rd_T33 t177 x11_3).f1).size : Int)))
                                                  · as_aux_lemma =>
                                                    rw [if_pos c42] at H
                                                    have c42b0 := eq_true c42
                                                    have c42b1 : decide (((rd_T33 t177 x11_3).f3) ≤ (wrap64 (((rd_T33 t177 x11_3).f3) + (((rd_T33 t177 x11_3).f1).size : Int)))) = true := decide_eq_true c42
                                                    by_cases c43 : (wrap64 (((rd_T33 t177 x11_3).f3) + (((rd_T33 t177 x11_3).f1).size : Int))) ≤ (a0.size : Int)
                                                    · as_aux_lemma =>
                                                      rw [if_pos c43] at H
                                                      have c43b0 := eq_true c43
                                                      have c43b1 : decide ((wrap64 (((rd_T33 t177 x11_3).f3) + (((rd_T33 t177 x11_3).f1).size : Int))) ≤ (a0.size : Int)) = true := decide_eq_true c43
                                                      by_cases c44 : (a0.extract (((rd_T33 t177 x11_3).f3) : Int).toNat ((wrap64 (((rd_T33 t177 x11_3).f3) + (((rd_T33 t177 x11_3).f1).size : Int))) : Int).toNat).toList = ((rd_T33 t177 x11_3).f1).toList
                                                      · as_aux_lemma =>
                                                        rw [if_pos c44] at H
                                                        have c44b0 : ((a0.extract (((rd_T33 t177 x11_3).f3) : Int).toNat ((wrap64 (((rd_T33 t177 x11_3).f3) + (((rd_T33 t177 x11_3).f1).size : Int))) : Int).toNat).toList == ((rd_T33 t177 x11_3).f1).toList) = true := beq_iff_eq.mpr c44
                                                        have c44b1 : ((a0.extract (((rd_T33 t177 x11_3).f3) : Int).toNat ((wrap64 (((rd_T33 t177 x11_3).f3) + (((rd_T33 t177 x11_3).f1).size : Int))) : Int).toNat).toList != ((rd_T33 t177 x11_3).f1).toList) = false := bne_eq_false_iff_eq.mpr c44
                                                        clear c44
                                                        have H' := Aside0.mk H
                                                        clear H
                                                        have p189 : 0 ≤ (x11_3 : Int) := of_decide_eq_true (by first | (with_reducible assumption) | assumption)
                                                        have q189 : x11_3 < (t177.length : Int) := of_decide_eq_true (by first | (with_reducible assumption) | assumption)
                                                        obtain ⟨ad189, e189, hx189_0, hx189_1, hx189_2, hx189_3⟩ := at_T33 (Kd.R_reads' HO_3.out).2.2 x11_3 p189 q189
                                                        cases e189
                                                        replace p189 := eq_true p189
                                                        replace q189 := eq_true q189
                                                        obtain ⟨Ao45, co45, eo45⟩ := Kd.R_slice HO_8.out
                                                        subst eo45
                                                        have p190 : 0 ≤ (x11_3 : Int) := of_decide_eq_true (by first | (with_reducible assumption) | assumption)
                                                        have q190 : x11_3 < (t184.length : Int) := of_decide_eq_true (by first | (with_reducible assumption) | assumption)
                                                        obtain ⟨ad190, e190, hx190_0, hx190_1, hx190_2, hx190_3⟩ := at_T33 (Kd.R_reads' HO_8.out).2.2 x11_3 p190 q190
                                                        cases e190
                                                        replace p190 := eq_true p190
                                                        replace q190 := eq_true q190
                                                        have p191 : 0 ≤ (x11_3 : Int) := of_decide_eq_true (by first | (with_reducible assumption) | assumption)
                                                        have q191 : x11_3 < (t177.length : Int) := of_decide_eq_true (by first | (with_reducible assumption) | assumption)
                                                        obtain ⟨ad191, e191, hx191_0, hx191_1, hx191_2, hx191_3⟩ := at_T33 (Kd.R_reads' HO_3.out).2.2 x11_3 p191 q191
                                                        obtain rfl : ad189 = ad191 := (by injection e191)
                                                        replace p191 := eq_true p191
                                                        replace q191 := eq_true q191
                                                        have p192 : 0 ≤ (x11_3 : Int) := of_decide_eq_true (by first | (with_reducible assumption) | assumption)
                                                        have q192 : x11_3 < (t184.length : Int) := of_decide_eq_true (by first | (with_reducible assumption) | assumption)
                                                        obtain ⟨ad192, e192, hx192_0, hx192_1, hx192_2, hx192_3⟩ := at_T33 (Kd.R_reads' HO_8.out).2.2 x11_3 p192 q192
                                                        obtain rfl : ad190 = ad192 := (by injection e192)
                                                        replace p192 := eq_true p192
                                                        replace q192 := eq_true q192
                                                        have p193 : 0 ≤ (x11_3 : Int) := of_decide_eq_true (by first | (with_reducible assumption) | assumption)
                                                        have q193 : x11_3 < (t177.length : Int) := of_decide_eq_true (by first | (with_reducible assumption) | assumption)
                                                        obtain ⟨ad193, e193, hx193_0, hx193_1, hx193_2, hx193_3⟩ := at_T33 (Kd.R_reads' HO_3.out).2.2 x11_3 p193 q193
                                                        obtain rfl : ad189 = ad193 := (by injection e193)
                                                        replace p193 := eq_true p193
                                                        replace q193 := eq_true q193
                                                        have p194 : 0 ≤ (x11_3 : Int) := of_decide_eq_true (by first | (with_reducible assumption) | assumption)
                                                        have q194 : x11_3 < (t184.length : Int) := of_decide_eq_true (by first | (with_reducible assumption) | assumption)
                                                        obtain ⟨ad194, e194, hx194_0, hx194_1, hx194_2, hx194_3⟩ := at_T33 (Kd.R_reads' HO_8.out).2.2 x11_3 p194 q194
                                                        obtain rfl : ad190 = ad194 := (by injection e194)
                                                        replace p194 := eq_true p194
                                                        replace q194 := eq_true q194
                                                        have p195 : 0 ≤ (x11_3 : Int) := of_decide_eq_true (by first | (with_reducible assumption) | assumption)
                                                        have q195 : x11_3 < (t177.length : Int) := of_decide_eq_true (by first | (with_reducible assumption) | assumption)
                                                        obtain ⟨ad195, e195, hx195_0, hx195_1, hx195_2, hx195_3⟩ := at_T33 (Kd.R_reads' HO_3.out).2.2 x11_3 p195 q195
                                                        obtain rfl : ad189 = ad195 := (by injection e195)
                                                        replace p195 := eq_true p195
                                                        replace q195 := eq_true q195
                                                        have p196 : 0 ≤ (x11_3 : Int) := of_decide_eq_true (by first | (with_reducible assumption) | assumption)
                                                        have q196 : x11_3 < (t177.length : Int) := of_decide_eq_true (by first | (with_reducible assumption) | assumption)
                                                        obtain ⟨ad196, e196, hx196_0, hx196_1, hx196_2, hx196_3⟩ := at_T33 (Kd.R_reads' HO_3.out).2.2 x11_3 p196 q196
                                                        obtain rfl : ad189 = ad196 := (by injection e196)
                                                        replace p196 := eq_true p196
                                                        replace q196 := eq_true q196
                                                        have p197 : 0 ≤ (x11_3 : Int) := of_decide_eq_true (by first | (with_reducible assumption) | assumption)
                                                        have q197 : x11_3 < (t177.length : Int) := of_decide_eq_true (by first | (with_reducible assumption) | assumption)
                                                        obtain ⟨ad197, e197, hx197_0, hx197_1, hx197_2, hx197_3⟩ := at_T33 (Kd.R_reads' HO_3.out).2.2 x11_3 p197 q197
                                                        obtain rfl : ad189 = ad197 := (by injection e197)
                                                        replace p197 := eq_true p197
                                                        replace q197 := eq_true q197
                                                        have p198 : 0 ≤ ((ji36) : Int) := of_decide_eq_true (by first | (with_reducible assumption) | assumption)
                                                        have q198 : (ji36) < (t177.length : Int) := of_decide_eq_true (by first | (with_reducible assumption) | assumption)
                                                        obtain ⟨ad198, e198, hx198_0, hx198_1, hx198_2, hx198_3⟩ := at_T33 (Kd.R_reads' HO_3.out).2.2 (ji36) p198 q198
                                                        obtain rfl : ad189 = ad198 := (by injection e198)
                                                        replace p198 := eq_true p198
                                                        replace q198 := eq_true q198
                                                        have p199 : 0 ≤ ((ji36) : Int) := of_decide_eq_true (by first | (with_reducible assumption) | assumption)
                                                        have q199 : (ji36) < (t177.length : Int) := of_decide_eq_true (by first | (with_reducible assumption) | assumption)
                                                        obtain ⟨ad199, e199, hx199_0, hx199_1, hx199_2, hx199_3⟩ := at_T33 (Kd.R_reads' HO_3.out).2.2 (ji36) p199 q199
                                                        obtain rfl : ad189 = ad199 := (by injection e199)
                                                        replace p199 := eq_true p199
                                                        replace q199 := eq_true q199
                                                        have p200 : 0 ≤ (x11_3 : Int) := of_decide_eq_true (by first | (with_reducible assumption) | assumption)
                                                        have q200 : x11_3 < (t177.length : Int) := of_decide_eq_true (by first | (with_reducible assumption) | assumption)
                                                        obtain ⟨ad200, e200, hx200_0, hx200_1, hx200_2, hx200_3⟩ := at_T33 (Kd.R_reads' HO_3.out).2.2 x11_3 p200 q200
                                                        obtain rfl : ad189 = ad200 := (by injection e200)
                                                        replace p200 := eq_true p200
                                                        replace q200 := eq_true q200
                                                        have p201 : 0 ≤ (x11_3 : Int) := of_decide_eq_true (by first | (with_reducible assumption) | assumption)
                                                        have q201 : x11_3 < (t177.length : Int) := of_decide_eq_true (by first | (with_reducible assumption) | assumption)
                                                        obtain ⟨ad201, e201, hx201_0, hx201_1, hx201_2, hx201_3⟩ := at_T33 (Kd.R_reads' HO_3.out).2.2 x11_3 p201 q201
                                                        obtain rfl : ad189 = ad201 := (by injection e201)
                                                        replace p201 := eq_true p201
                                                        replace q201 := eq_true q201
                                                        have p202 : 0 ≤ (x11_3 : Int) := of_decide_eq_true (by first | (with_reducible assumption) | assumption)
                                                        have q202 : x11_3 < (t177.length : Int) := of_decide_eq_true (by first | (with_reducible assumption) | assumption)
                                                        obtain ⟨ad202, e202, hx202_0, hx202_1, hx202_2, hx202_3⟩ := at_T33 (Kd.R_reads' HO_3.out).2.2 x11_3 p202 q202
                                                        obtain rfl : ad189 = ad202 := (by injection e202)
                                                        replace p202 := eq_true p202
                                                        replace q202 := eq_true q202
                                                        have p203 : 0 ≤ (x11_3 : Int) := of_decide_eq_true (by first | (with_reducible assumption) | assumption)
                                                        have q203 : x11_3 < (t177.length : Int) := of_decide_eq_true (by first | (with_reducible assumption) | assumption)
                                                        obtain ⟨ad203, e203, hx203_0, hx203_1, hx203_2, hx203_3⟩ := at_T33 (Kd.R_reads' HO_3.out).2.2 x11_3 p203 q203
                                                        obtain rfl : ad189 = ad203 := (by injection e203)
                                                        replace p203 := eq_true p203
                                                        replace q203 := eq_true q203
                                                        go_wp2
                                                        refine wp_region_quiet_lit (by kernel_rfl) again_lexB ?_
                                                        go_big_quiet_step (fail)
                                                        go_big_quiet_step (fail)
                                                        go_big_quiet_step (fail)
                                                        go_big_quiet_step (fail)
                                                        go_big_quiet_step (fail)
                                                        go_big_quiet_step (fail)
                                                        go_big_quiet_step (fail)
                                                        go_big_quiet_step (fail)
                                                        as_aux_lemma =>
                                                        go_big_quiet_step (fail)
                                                        go_big_quiet_step (fail)
                                                        go_big_quiet_step (fail)
                                                        go_big_quiet_step (fail)
                                                        go_big_quiet_step (fail)
                                                        go_big_quiet_step (fail)
                                                        go_big_quiet_step (fail)
                                                        go_big_quiet_step (fail)
                                                        as_aux_lemma =>
                                                        go_big_quiet_step (fail)
                                                        go_big_quiet_step (fail)
                                                        go_big_quiet_step (fail)
                                                        go_big_quiet_step (fail)
                                                        go_big_quiet_step (fail)
                                                        go_big_quiet_step (fail)
                                                        go_big_quiet_step (fail)
                                                        go_big_quiet_step (fail)
                                                        as_aux_lemma =>
                                                        go_big_quiet_step (fail)
                                                        go_big_quiet_step (fail)
                                                        go_big_quiet_step (fail)
                                                        go_big_quiet_step (fail)
                                                        go_big_quiet_step (fail)
                                                        go_big_quiet_step (fail)
                                                        go_big_quiet_step (fail)
                                                        go_big_quiet_step (fail)
                                                        as_aux_lemma =>
                                                        go_big_quiet_step (fail)
                                                        go_big_quiet_step (fail)
                                                        go_big_quiet_step (fail)
                                                        go_big_quiet_step (fail)
                                                        go_big_quiet_step (fail)
                                                        go_big_quiet_step (fail)
                                                        go_big_quiet_step (fail)
                                                        go_big_quiet_step (fail)
                                                        as_aux_lemma =>
                                                        go_big_quiet_step (fail)
                                                        go_big_quiet_step (fail)
                                                        go_big_quiet_step (fail)
                                                        go_big_quiet_step (fail)
                                                        go_big_quiet_step (fail)
                                                        go_big_quiet_step (fail)
                                                        go_big_quiet_step (fail)
                                                        go_big_quiet_step (fail)
                                                        as_aux_lemma =>
                                                        go_big_quiet_step (fail)
                                                        go_big_quiet_step (fail)
                                                        go_big_quiet_step (fail)
                                                        go_big_quiet_step (fail)
                                                        go_big_quiet_step (fail)
                                                        go_big_quiet_step (fail)
                                                        go_big_quiet_step (fail)
                                                        go_big_quiet_step (fail)
                                                        as_aux_lemma =>
                                                        go_big_quiet_step (fail)
                                                        go_big_quiet_step (fail)
                                                        go_big_quiet_step (fail)
                                                        go_big_quiet_step (fail)
                                                        go_big_quiet_step (fail)
                                                        go_big_quiet_step (fail)
                                                        go_big_quiet_step (fail)
                                                        go_big_quiet_step (fail)
                                                        as_aux_lemma =>
                                                        go_big_quiet_step (fail)
                                                        go_big_quiet_step (fail)
                                                        go_big_quiet_step (fail)
                                                        go_big_quiet_step (fail)
                                                        go_big_quiet_step (fail)
                                                        go_big_quiet_step (fail)
                                                        go_big_quiet_step (fail)
                                                        go_big_quiet_step (fail)
                                                        as_aux_lemma =>
                                                        go_big_quiet_step (fail)
                                                        go_big_quiet_step (fail)
                                                        go_big_quiet_step (fail)
                                                        go_big_quiet_step (fail)
                                                        go_big_quiet_step (fail)
                                                        go_big_quiet_step (fail)
                                                        go_big_quiet_step (fail)
                                                        go_big_quiet_step (fail)
                                                        as_aux_lemma =>
                                                        go_big_quiet_step (fail)
                                                        go_big_quiet_step (fail)
                                                        go_big_quiet_step (fail)
                                                        go_big_quiet_step (fail)
                                                        go_big_quiet_step (fail)
                                                        go_big_quiet_step (fail)
                                                        go_big_quiet_step (fail)
                                                        go_big_quiet_step (fail)
                                                        as_aux_lemma =>
                                                        go_big_quiet_step (fail)
                                                        go_big_quiet_step (fail)
                                                        go_big_quiet_step (fail)
                                                        go_big_quiet_step (fail)
                                                        go_big_quiet_step (fail)
                                                        go_big_quiet_step (fail)
                                                        go_big_quiet_step (fail)
                                                        go_big_quiet_step (fail)
                                                        as_aux_lemma =>
                                                        go_big_quiet_step (fail)
                                                        go_big_quiet_step (fail)
                                                        go_big_quiet_step (fail)
                                                        go_big_quiet_step (fail)
                                                        go_big_quiet_step (fail)
                                                        go_big_quiet_step (fail)
                                                        go_big_quiet_step (fail)
                                                        go_big_quiet_step (fail)
                                                        as_aux_lemma =>
                                                        go_big_quiet_step (fail)
                                                        go_big_quiet_step (fail)
                                                        go_big_quiet_step (fail)
                                                        go_big_quiet_step (fail)
                                                        as_aux_lemma =>
                                                        refine wpQuiet_nil ?_
                                                        intro _ hw'
                                                        obtain ⟨nq, hw''⟩ := hw'
                                                        subst hw''
                                                        try go_wp2
                                                        go_roundg k3
                                                        case measure => have := HK1.out; have := HJ18.out; have := HK3.out; omega
                                                        case rel => exact ⟨(wrap64 (x11_3 + 1)), (by first | rfl | (simp; done) | (simp [*]; done)), H', ⟨by have := HK1.out; have := HJ18.out; have := HK3.out; omega⟩, ⟨by (with_reducible repeat (first | apply Kd.R_alloc | apply Kd.R_drewN | apply Kd.R_drew)); exact HO_3.out⟩, ⟨by (with_reducible repeat (first | apply Kd.R_alloc | apply Kd.R_drewN | apply Kd.R_drew)); exact HO_8.out⟩, ⟨by repeat (first | (with_reducible first | exact HB.out | apply below_alloc | apply pw_below_drewN | apply below_drew1) | exact HB.out)⟩⟩
                                                      · as_aux_lemma =>
                                                        rw [if_neg c44] at H
                                                        have c44b0 : ((a0.extract (((rd_T33 t177 x11_3).f3) : Int).toNat ((wrap64 (((rd_T33 t177 x11_3).f3) + (((rd_T33 t177 x11_3).f1).size : Int))) : Int).toNat).toList == ((rd_T33 t177 x11_3).f1).toList) = false := beq_eq_false_iff_ne.mpr c44
                                                        have c44b1 : ((a0.extract (((rd_T33 t177 x11_3).f3) : Int).toNat ((wrap64 (((rd_T33 t177 x11_3).f3) + (((rd_T33 t177 x11_3).f1).size : Int))) : Int).toNat).toList != ((rd_T33 t177 x11_3).f1).toList) = true := bne_iff_ne.mpr c44
                                                        obtain rfl := Option.some.inj H
                                                        have p189 : 0 ≤ (x11_3 : Int) := of_decide_eq_true (by first | (with_reducible assumption) | assumption)
                                                        have q189 : x11_3 < (t177.length : Int) := of_decide_eq_true (by first | (with_reducible assumption) | assumption)
                                                        obtain ⟨ad189, e189, hx189_0, hx189_1, hx189_2, hx189_3⟩ := at_T33 (Kd.R_reads' HO_3.out).2.2 x11_3 p189 q189
                                                        cases e189
                                                        replace p189 := eq_true p189
                                                        replace q189 := eq_true q189
                                                        obtain ⟨Ao46, co46, eo46⟩ := Kd.R_slice HO_8.out
                                                        subst eo46
                                                        have p190 : 0 ≤ (x11_3 : Int) := of_decide_eq_true (by first | (with_reducible assumption) | assumption)
                                                        have q190 : x11_3 < (t184.length : Int) := of_decide_eq_true (by first | (with_reducible assumption) | assumption)
                                                        obtain ⟨ad190, e190, hx190_0, hx190_1, hx190_2, hx190_3⟩ := at_T33 (Kd.R_reads' HO_8.out).2.2 x11_3 p190 q190
                                                        cases e190
                                                        replace p190 := eq_true p190
                                                        replace q190 := eq_true q190
                                                        have p191 : 0 ≤ (x11_3 : Int) := of_decide_eq_true (by first | (with_reducible assumption) | assumption)
                                                        have q191 : x11_3 < (t177.length : Int) := of_decide_eq_true (by first | (with_reducible assumption) | assumption)
                                                        obtain ⟨ad191, e191, hx191_0, hx191_1, hx191_2, hx191_3⟩ := at_T33 (Kd.R_reads' HO_3.out).2.2 x11_3 p191 q191
                                                        obtain rfl : ad189 = ad191 := (by injection e191)
                                                        replace p191 := eq_true p191
                                                        replace q191 := eq_true q191
                                                        have p192 : 0 ≤ (x11_3 : Int) := of_decide_eq_true (by first | (with_reducible assumption) | assumption)
                                                        have q192 : x11_3 < (t184.length : Int) := of_decide_eq_true (by first | (with_reducible assumption) | assumption)
                                                        obtain ⟨ad192, e192, hx192_0, hx192_1, hx192_2, hx192_3⟩ := at_T33 (Kd.R_reads' HO_8.out).2.2 x11_3 p192 q192
                                                        obtain rfl : ad190 = ad192 := (by injection e192)
                                                        replace p192 := eq_true p192
                                                        replace q192 := eq_true q192
                                                        have p193 : 0 ≤ (x11_3 : Int) := of_decide_eq_true (by first | (with_reducible assumption) | assumption)
                                                        have q193 : x11_3 < (t177.length : Int) := of_decide_eq_true (by first | (with_reducible assumption) | assumption)
                                                        obtain ⟨ad193, e193, hx193_0, hx193_1, hx193_2, hx193_3⟩ := at_T33 (Kd.R_reads' HO_3.out).2.2 x11_3 p193 q193
                                                        obtain rfl : ad189 = ad193 := (by injection e193)
                                                        replace p193 := eq_true p193
                                                        replace q193 := eq_true q193
                                                        have p194 : 0 ≤ (x11_3 : Int) := of_decide_eq_true (by first | (with_reducible assumption) | assumption)
                                                        have q194 : x11_3 < (t184.length : Int) := of_decide_eq_true (by first | (with_reducible assumption) | assumption)
                                                        obtain ⟨ad194, e194, hx194_0, hx194_1, hx194_2, hx194_3⟩ := at_T33 (Kd.R_reads' HO_8.out).2.2 x11_3 p194 q194
                                                        obtain rfl : ad190 = ad194 := (by injection e194)
                                                        replace p194 := eq_true p194
                                                        replace q194 := eq_true q194
                                                        have p195 : 0 ≤ (x11_3 : Int) := of_decide_eq_true (by first | (with_reducible assumption) | assumption)
                                                        have q195 : x11_3 < (t177.length : Int) := of_decide_eq_true (by first | (with_reducible assumption) | assumption)
                                                        obtain ⟨ad195, e195, hx195_0, hx195_1, hx195_2, hx195_3⟩ := at_T33 (Kd.R_reads' HO_3.out).2.2 x11_3 p195 q195
                                                        obtain rfl : ad189 = ad195 := (by injection e195)
                                                        replace p195 := eq_true p195
                                                        replace q195 := eq_true q195
                                                        have p196 : 0 ≤ (x11_3 : Int) := of_decide_eq_true (by first | (with_reducible assumption) | assumption)
                                                        have q196 : x11_3 < (t177.length : Int) := of_decide_eq_true (by first | (with_reducible assumption) | assumption)
                                                        obtain ⟨ad196, e196, hx196_0, hx196_1, hx196_2, hx196_3⟩ := at_T33 (Kd.R_reads' HO_3.out).2.2 x11_3 p196 q196
                                                        obtain rfl : ad189 = ad196 := (by injection e196)
                                                        replace p196 := eq_true p196
                                                        replace q196 := eq_true q196
                                                        have p197 : 0 ≤ (x11_3 : Int) := of_decide_eq_true (by first | (with_reducible assumption) | assumption)
                                                        have q197 : x11_3 < (t177.length : Int) := of_decide_eq_true (by first | (with_reducible assumption) | assumption)
                                                        obtain ⟨ad197, e197, hx197_0, hx197_1, hx197_2, hx197_3⟩ := at_T33 (Kd.R_reads' HO_3.out).2.2 x11_3 p197 q197
                                                        obtain rfl : ad189 = ad197 := (by injection e197)
                                                        replace p197 := eq_true p197
                                                        replace q197 := eq_true q197
                                                        have p198 : 0 ≤ ((ji36) : Int) := of_decide_eq_true (by first | (with_reducible assumption) | assumption)
                                                        have q198 : (ji36) < (t177.length : Int) := of_decide_eq_true (by first | (with_reducible assumption) | assumption)
                                                        obtain ⟨ad198, e198, hx198_0, hx198_1, hx198_2, hx198_3⟩ := at_T33 (Kd.R_reads' HO_3.out).2.2 (ji36) p198 q198
                                                        obtain rfl : ad189 = ad198 := (by injection e198)
                                                        replace p198 := eq_true p198
                                                        replace q198 := eq_true q198
                                                        have p199 : 0 ≤ ((ji36) : Int) := of_decide_eq_true (by first | (with_reducible assumption) | assumption)
                                                        have q199 : (ji36) < (t177.length : Int) := of_decide_eq_true (by first | (with_reducible assumption) | assumption)
                                                        obtain ⟨ad199, e199, hx199_0, hx199_1, hx199_2, hx199_3⟩ := at_T33 (Kd.R_reads' HO_3.out).2.2 (ji36) p199 q199
                                                        obtain rfl : ad189 = ad199 := (by injection e199)
                                                        replace p199 := eq_true p199
                                                        replace q199 := eq_true q199
                                                        have p200 : 0 ≤ (x11_3 : Int) := of_decide_eq_true (by first | (with_reducible assumption) | assumption)
                                                        have q200 : x11_3 < (t177.length : Int) := of_decide_eq_true (by first | (with_reducible assumption) | assumption)
                                                        obtain ⟨ad200, e200, hx200_0, hx200_1, hx200_2, hx200_3⟩ := at_T33 (Kd.R_reads' HO_3.out).2.2 x11_3 p200 q200
                                                        obtain rfl : ad189 = ad200 := (by injection e200)
                                                        replace p200 := eq_true p200
                                                        replace q200 := eq_true q200
                                                        have p201 : 0 ≤ (x11_3 : Int) := of_decide_eq_true (by first | (with_reducible assumption) | assumption)
                                                        have q201 : x11_3 < (t177.length : Int) := of_decide_eq_true (by first | (with_reducible assumption) | assumption)
                                                        obtain ⟨ad201, e201, hx201_0, hx201_1, hx201_2, hx201_3⟩ := at_T33 (Kd.R_reads' HO_3.out).2.2 x11_3 p201 q201
                                                        obtain rfl : ad189 = ad201 := (by injection e201)
                                                        replace p201 := eq_true p201
                                                        replace q201 := eq_true q201
                                                        have p202 : 0 ≤ (x11_3 : Int) := of_decide_eq_true (by first | (with_reducible assumption) | assumption)
                                                        have q202 : x11_3 < (t177.length : Int) := of_decide_eq_true (by first | (with_reducible assumption) | assumption)
                                                        obtain ⟨ad202, e202, hx202_0, hx202_1, hx202_2, hx202_3⟩ := at_T33 (Kd.R_reads' HO_3.out).2.2 x11_3 p202 q202
                                                        obtain rfl : ad189 = ad202 := (by injection e202)
                                                        replace p202 := eq_true p202
                                                        replace q202 := eq_true q202
                                                        have p203 : 0 ≤ (x11_3 : Int) := of_decide_eq_true (by first | (with_reducible assumption) | assumption)
                                                        have q203 : x11_3 < (t177.length : Int) := of_decide_eq_true (by first | (with_reducible assumption) | assumption)
                                                        obtain ⟨ad203, e203, hx203_0, hx203_1, hx203_2, hx203_3⟩ := at_T33 (Kd.R_reads' HO_3.out).2.2 x11_3 p203 q203
                                                        obtain rfl : ad189 = ad203 := (by injection e203)
                                                        replace p203 := eq_true p203
                                                        replace q203 := eq_true q203
                                                        go_wp2
                                                        refine wp_region_quiet_lit (by kernel_rfl) again_lexB ?_
                                                        go_big_quiet_step (fail)
                                                        go_big_quiet_step (fail)
                                                        go_big_quiet_step (fail)
                                                        go_big_quiet_step (fail)
                                                        go_big_quiet_step (fail)
                                                        go_big_quiet_step (fail)
                                                        go_big_quiet_step (fail)
                                                        go_big_quiet_step (fail)
                                                        as_aux_lemma =>
                                                        go_big_quiet_step (fail)
                                                        go_big_quiet_step (fail)
                                                        go_big_quiet_step (fail)
                                                        go_big_quiet_step (fail)
                                                        go_big_quiet_step (fail)
                                                        go_big_quiet_step (fail)
                                                        go_big_quiet_step (fail)
                                                        go_big_quiet_step (fail)
                                                        as_aux_lemma =>
                                                        go_big_quiet_step (fail)
                                                        go_big_quiet_step (fail)
                                                        go_big_quiet_step (fail)
                                                        go_big_quiet_step (fail)
                                                        go_big_quiet_step (fail)
                                                        go_big_quiet_step (fail)
                                                        go_big_quiet_step (fail)
                                                        go_big_quiet_step (fail)
                                                        as_aux_lemma =>
                                                        go_big_quiet_step (fail)
                                                        go_big_quiet_step (fail)
                                                        go_big_quiet_step (fail)
                                                        go_big_quiet_step (fail)
                                                        go_big_quiet_step (fail)
                                                        go_big_quiet_step (fail)
                                                        go_big_quiet_step (fail)
                                                        go_big_quiet_step (fail)
                                                        as_aux_lemma =>
                                                        go_big_quiet_step (fail)
                                                        go_big_quiet_step (fail)
                                                        go_big_quiet_step (fail)
                                                        go_big_quiet_step (fail)
                                                        go_big_quiet_step (fail)
                                                        go_big_quiet_step (fail)
                                                        go_big_quiet_step (fail)
                                                        go_big_quiet_step (fail)
                                                        as_aux_lemma =>
                                                        go_big_quiet_step (fail)
                                                        go_big_quiet_step (fail)
                                                        go_big_quiet_step (fail)
                                                        go_big_quiet_step (fail)
                                                        go_big_quiet_step (fail)
                                                        go_big_quiet_step (fail)
                                                        go_big_quiet_step (fail)
                                                        go_big_quiet_step (fail)
                                                        as_aux_lemma =>
                                                        go_big_quiet_step (fail)
                                                        go_big_quiet_step (fail)
                                                        go_big_quiet_step (fail)
                                                        go_big_quiet_step (fail)
                                                        go_big_quiet_step (fail)
                                                        go_big_quiet_step (fail)
                                                        go_big_quiet_step (fail)
                                                        go_big_quiet_step (fail)
                                                        as_aux_lemma =>
                                                        go_big_quiet_step (fail)
                                                        go_big_quiet_step (fail)
                                                        go_big_quiet_step (fail)
                                                        go_big_quiet_step (fail)
                                                        go_big_quiet_step (fail)
                                                        go_big_quiet_step (fail)
                                                        go_big_quiet_step (fail)
                                                        go_big_quiet_step (fail)
                                                        as_aux_lemma =>
                                                        go_big_quiet_step (fail)
                                                        go_big_quiet_step (fail)
                                                        go_big_quiet_step (fail)
                                                        go_big_quiet_step (fail)
                                                        go_big_quiet_step (fail)
                                                        go_big_quiet_step (fail)
                                                        go_big_quiet_step (fail)
                                                        go_big_quiet_step (fail)
                                                        as_aux_lemma =>
                                                        go_big_quiet_step (fail)
                                                        go_big_quiet_step (fail)
                                                        go_big_quiet_step (fail)
                                                        go_big_quiet_step (fail)
                                                        go_big_quiet_step (fail)
                                                        go_big_quiet_step (fail)
                                                        go_big_quiet_step (fail)
                                                        go_big_quiet_step (fail)
                                                        as_aux_lemma =>
                                                        go_big_quiet_step (fail)
                                                        go_big_quiet_step (fail)
                                                        go_big_quiet_step (fail)
                                                        go_big_quiet_step (fail)
                                                        go_big_quiet_step (fail)
                                                        go_big_quiet_step (fail)
                                                        go_big_quiet_step (fail)
                                                        go_big_quiet_step (fail)
                                                        as_aux_lemma =>
                                                        go_big_quiet_step (fail)
                                                        go_big_quiet_step (fail)
                                                        go_big_quiet_step (fail)
                                                        go_big_quiet_step (fail)
                                                        go_big_quiet_step (fail)
                                                        go_big_quiet_step (fail)
                                                        go_big_quiet_step (fail)
                                                        go_big_quiet_step (fail)
                                                        as_aux_lemma =>
                                                        go_big_quiet_step (fail)
                                                        go_big_quiet_step (fail)
                                                        go_big_quiet_step (fail)
                                                        go_big_quiet_step (fail)
                                                        go_big_quiet_step (fail)
                                                        go_big_quiet_step (fail)
                                                        go_big_quiet_step (fail)
                                                        go_big_quiet_step (fail)
                                                        as_aux_lemma =>
                                                        go_big_quiet_step (fail)
                                                        go_big_quiet_step (fail)
                                                        go_big_quiet_step (fail)
                                                        go_big_quiet_step (fail)
                                                        as_aux_lemma =>
                                                        refine wpQuiet_nil ?_
                                                        intro _ hw'
                                                        obtain ⟨nq, hw''⟩ := hw'
                                                        subst hw''
                                                        try go_wp2
                                                        go_ret
                                                        exact ⟨by first | rfl | (simp [errW_none, errW_some] <;> rfl) | (simp only [← hji36]; first | rfl | (simp [errW_none, errW_some] <;> rfl)) | (simp [*, errW_none, errW_some] <;> rfl), by repeat (first | (with_reducible first | exact HB.out | apply below_alloc | apply pw_below_drewN | apply below_drew1) | exact HB.out)⟩
                                                    · as_aux_lemma =>
                                                      rw [if_neg c43] at H
                                                      exact absurd H (by simp)
                                                  · as_aux_lemma =>
                                                    rw [if_neg c42] at H
                                                    exact absurd H (by simp)
                                                · as_aux_lemma =>
                                                  rw [if_neg c41] at H
                                                  exact absurd H (by simp)
                                            · as_aux_lemma =>
                                              rw [if_neg c38] at H
                                              exact absurd H (by simp)
                                          · as_aux_lemma =>
                                            rw [if_neg c37] at H
                                            exact absurd H (by simp)
                                        · as_aux_lemma =>
                                          rw [if_neg c35] at H
                                          have c35b0 : decide (0 < x11_3) = false := decide_eq_false c35
                                          clear c35
                                          by_cases c47 : 0 ≤ ((rd_T33 t177 x11_3).f3)
                                          · as_aux_lemma =>
                                            rw [if_pos c47] at H
                                            have c47b0 := eq_true c47
                                            have c47b1 : decide (0 ≤ ((rd_T33 t177 x11_3).f3)) = true := decide_eq_true c47
                                            clear c47
                                            by_cases c48 : ((rd_T33 t177 x11_3).f3) ≤ (wrap64 (((rd_T33 t177 x11_3).f3) + (((rd_T33 t177 x11_3).f1).size : Int)))
                                            · as_aux_lemma =>
                                              rw [if_pos c48] at H
                                              have c48b0 := eq_true c48
                                              have c48b1 : decide (((rd_T33 t177 x11_3).f3) ≤ (wrap64 (((rd_T33 t177 x11_3).f3) + (((rd_T33 t177 x11_3).f1).size : Int)))) = true := decide_eq_true c48
                                              by_cases c49 : (wrap64 (((rd_T33 t177 x11_3).f3) + (((rd_T33 t177 x11_3).f1).size : Int))) ≤ (a0.size : Int)
                                              · as_aux_lemma =>
                                                rw [if_pos c49] at H
                                                have c49b0 := eq_true c49
                                                have c49b1 : decide ((wrap64 (((rd_T33 t177 x11_3).f3) + (((rd_T33 t177 x11_3).f1).size : Int))) ≤ (a0.size : Int)) = true := decide_eq_true c49
                                                by_cases c50 : (a0.extract (((rd_T33 t177 x11_3).f3) : Int).toNat ((wrap64 (((rd_T33 t177 x11_3).f3) + (((rd_T33 t177 x11_3).f1).size : Int))) : Int).toNat).toList = ((rd_T33 t177 x11_3).f1).toList
                                                · as_aux_lemma =>
                                                  rw [if_pos c50] at H
                                                  have c50b0 : ((a0.extract (((rd_T33 t177 x11_3).f3) : Int).toNat ((wrap64 (((rd_T33 t177 x11_3).f3) + (((rd_T33 t177 x11_3).f1).size : Int))) : Int).toNat).toList == ((rd_T33 t177 x11_3).f1).toList) = true := beq_iff_eq.mpr c50
                                                  have c50b1 : ((a0.extract (((rd_T33 t177 x11_3).f3) : Int).toNat ((wrap64 (((rd_T33 t177 x11_3).f3) + (((rd_T33 t177 x11_3).f1).size : Int))) : Int).toNat).toList != ((rd_T33 t177 x11_3).f1).toList) = false := bne_eq_false_iff_eq.mpr c50
                                                  clear c50
                                                  have H' := Aside0.mk H
                                                  clear H
                                                  have p189 : 0 ≤ (x11_3 : Int) := of_decide_eq_true (by first | (with_reducible assumption) | assumption)
                                                  have q189 : x11_3 < (t177.length : Int) := of_decide_eq_true (by first | (with_reducible assumption) | assumption)
                                                  obtain ⟨ad189, e189, hx189_0, hx189_1, hx189_2, hx189_3⟩ := at_T33 (Kd.R_reads' HO_3.out).2.2 x11_3 p189 q189
                                                  cases e189
                                                  replace p189 := eq_true p189
                                                  replace q189 := eq_true q189
                                                  obtain ⟨Ao51, co51, eo51⟩ := Kd.R_slice HO_8.out
                                                  subst eo51
                                                  have p190 : 0 ≤ (x11_3 : Int) := of_decide_eq_true (by first | (with_reducible assumption) | assumption)
                                                  have q190 : x11_3 < (t184.length : Int) := of_decide_eq_true (by first | (with_reducible assumption) | assumption)
                                                  obtain ⟨ad190, e190, hx190_0, hx190_1, hx190_2, hx190_3⟩ := at_T33 (Kd.R_reads' HO_8.out).2.2 x11_3 p190 q190
                                                  cases e190
                                                  replace p190 := eq_true p190
                                                  replace q190 := eq_true q190
                                                  have p191 : 0 ≤ (x11_3 : Int) := of_decide_eq_true (by first | (with_reducible assumption) | assumption)
                                                  have q191 : x11_3 < (t177.length : Int) := of_decide_eq_true (by first | (with_reducible assumption) | assumption)
                                                  obtain ⟨ad191, e191, hx191_0, hx191_1, hx191_2, hx191_3⟩ := at_T33 (Kd.R_reads' HO_3.out).2.2 x11_3 p191 q191
                                                  obtain rfl : ad189 = ad191 := (by injection e191)
                                                  replace p191 := eq_true p191
                                                  replace q191 := eq_true q191
                                                  have p192 : 0 ≤ (x11_3 : Int) := of_decide_eq_true (by first | (with_reducible assumption) | assumption)
                                                  have q192 : x11_3 < (t184.length : Int) := of_decide_eq_true (by first | (with_reducible assumption) | assumption)
                                                  obtain ⟨ad192, e192, hx192_0, hx192_1, hx192_2, hx192_3⟩ := at_T33 (Kd.R_reads' HO_8.out).2.2 x11_3 p192 q192
                                                  obtain rfl : ad190 = ad192 := (by injection e192)
                                                  replace p192 := eq_true p192
                                                  replace q192 := eq_true q192
                                                  have p193 : 0 ≤ (x11_3 : Int) := of_decide_eq_true (by first | (with_reducible assumption) | assumption)
                                                  have q193 : x11_3 < (t177.length : Int) := of_decide_eq_true (by first | (with_reducible assumption) | assumption)
                                                  obtain ⟨ad193, e193, hx193_0, hx193_1, hx193_2, hx193_3⟩ := at_T33 (Kd.R_reads' HO_3.out).2.2 x11_3 p193 q193
                                                  obtain rfl : ad189 = ad193 := (by injection e193)
                                                  replace p193 := eq_true p193
                                                  replace q193 := eq_true q193
                                                  have p194 : 0 ≤ (x11_3 : Int) := of_decide_eq_true (by first | (with_reducible assumption) | assumption)
                                                  have q194 : x11_3 < (t184.length : Int) := of_decide_eq_true (by first | (with_reducible assumption) | assumption)
                                                  obtain ⟨ad194, e194, hx194_0, hx194_1, hx194_2, hx194_3⟩ := at_T33 (Kd.R_reads' HO_8.out).2.2 x11_3 p194 q194
                                                  obtain rfl : ad190 = ad194 := (by injection e194)
                                                  replace p194 := eq_true p194
                                                  replace q194 := eq_true q194
                                                  have p195 : 0 ≤ (x11_3 : Int) := of_decide_eq_true (by first | (with_reducible assumption) | assumption)
                                                  have q195 : x11_3 < (t177.length : Int) := of_decide_eq_true (by first | (with_reducible assumption) | assumption)
                                                  obtain ⟨ad195, e195, hx195_0, hx195_1, hx195_2, hx195_3⟩ := at_T33 (Kd.R_reads' HO_3.out).2.2 x11_3 p195 q195
                                                  obtain rfl : ad189 = ad195 := (by injection e195)
                                                  replace p195 := eq_true p195
                                                  replace q195 := eq_true q195
                                                  have p196 : 0 ≤ (x11_3 : Int) := of_decide_eq_true (by first | (with_reducible assumption) | assumption)
                                                  have q196 : x11_3 < (t177.length : Int) := of_decide_eq_true (by first | (with_reducible assumption) | assumption)
                                                  obtain ⟨ad196, e196, hx196_0, hx196_1, hx196_2, hx196_3⟩ := at_T33 (Kd.R_reads' HO_3.out).2.2 x11_3 p196 q196
                                                  obtain rfl : ad189 = ad196 := (by injection e196)
                                                  replace p196 := eq_true p196
                                                  replace q196 := eq_true q196
                                                  have p204 : 0 ≤ (x11_3 : Int) := of_decide_eq_true (by first | (with_reducible assumption) | assumption)
                                                  have q204 : x11_3 < (t177.length : Int) := of_decide_eq_true (by first | (with_reducible assumption) | assumption)
                                                  obtain ⟨ad204, e204, hx204_0, hx204_1, hx204_2, hx204_3⟩ := at_T33 (Kd.R_reads' HO_3.out).2.2 x11_3 p204 q204
                                                  obtain rfl : ad189 = ad204 := (by injection e204)
                                                  replace p204 := eq_true p204
                                                  replace q204 := eq_true q204
                                                  have p205 : 0 ≤ (x11_3 : Int) := of_decide_eq_true (by first | (with_reducible assumption) | assumption)
                                                  have q205 : x11_3 < (t177.length : Int) := of_decide_eq_true (by first | (with_reducible assumption) | assumption)
                                                  obtain ⟨ad205, e205, hx205_0, hx205_1, hx205_2, hx205_3⟩ := at_T33 (Kd.R_reads' HO_3.out).2.2 x11_3 p205 q205
                                                  obtain rfl : ad189 = ad205 := (by injection e205)
                                                  replace p205 := eq_true p205
                                                  replace q205 := eq_true q205
                                                  have p206 : 0 ≤ (x11_3 : Int) := of_decide_eq_true (by first | (with_reducible assumption) | assumption)
                                                  have q206 : x11_3 < (t177.length : Int) := of_decide_eq_true (by first | (with_reducible assumption) | assumption)
                                                  obtain ⟨ad206, e206, hx206_0, hx206_1, hx206_2, hx206_3⟩ := at_T33 (Kd.R_reads' HO_3.out).2.2 x11_3 p206 q206
                                                  obtain rfl : ad189 = ad206 := (by injection e206)
                                                  replace p206 := eq_true p206
                                                  replace q206 := eq_true q206
                                                  have p207 : 0 ≤ (x11_3 : Int) := of_decide_eq_true (by first | (with_reducible assumption) | assumption)
                                                  have q207 : x11_3 < (t177.length : Int) := of_decide_eq_true (by first | (with_reducible assumption) | assumption)
                                                  obtain ⟨ad207, e207, hx207_0, hx207_1, hx207_2, hx207_3⟩ := at_T33 (Kd.R_reads' HO_3.out).2.2 x11_3 p207 q207
                                                  obtain rfl : ad189 = ad207 := (by injection e207)
                                                  replace p207 := eq_true p207
                                                  replace q207 := eq_true q207
                                                  go_wp2
                                                  refine wp_region_quiet_lit (by kernel_rfl) again_lexB ?_
                                                  go_big_quiet_step (fail)
                                                  go_big_quiet_step (fail)
                                                  go_big_quiet_step (fail)
                                                  go_big_quiet_step (fail)
                                                  go_big_quiet_step (fail)
                                                  go_big_quiet_step (fail)
                                                  go_big_quiet_step (fail)
                                                  go_big_quiet_step (fail)
                                                  as_aux_lemma =>
                                                  go_big_quiet_step (fail)
                                                  go_big_quiet_step (fail)
                                                  go_big_quiet_step (fail)
                                                  go_big_quiet_step (fail)
                                                  go_big_quiet_step (fail)
                                                  go_big_quiet_step (fail)
                                                  go_big_quiet_step (fail)
                                                  go_big_quiet_step (fail)
                                                  as_aux_lemma =>
                                                  go_big_quiet_step (fail)
                                                  go_big_quiet_step (fail)
                                                  go_big_quiet_step (fail)
                                                  go_big_quiet_step (fail)
                                                  go_big_quiet_step (fail)
                                                  go_big_quiet_step (fail)
                                                  go_big_quiet_step (fail)
                                                  go_big_quiet_step (fail)
                                                  as_aux_lemma =>
                                                  go_big_quiet_step (fail)
                                                  go_big_quiet_step (fail)
                                                  go_big_quiet_step (fail)
                                                  go_big_quiet_step (fail)
                                                  go_big_quiet_step (fail)
                                                  go_big_quiet_step (fail)
                                                  go_big_quiet_step (fail)
                                                  go_big_quiet_step (fail)
                                                  as_aux_lemma =>
                                                  go_big_quiet_step (fail)
                                                  go_big_quiet_step (fail)
                                                  go_big_quiet_step (fail)
                                                  go_big_quiet_step (fail)
                                                  go_big_quiet_step (fail)
                                                  go_big_quiet_step (fail)
                                                  go_big_quiet_step (fail)
                                                  go_big_quiet_step (fail)
                                                  as_aux_lemma =>
                                                  go_big_quiet_step (fail)
                                                  go_big_quiet_step (fail)
                                                  go_big_quiet_step (fail)
                                                  go_big_quiet_step (fail)
                                                  go_big_quiet_step (fail)
                                                  go_big_quiet_step (fail)
                                                  go_big_quiet_step (fail)
                                                  go_big_quiet_step (fail)
                                                  as_aux_lemma =>
                                                  go_big_quiet_step (fail)
                                                  go_big_quiet_step (fail)
                                                  go_big_quiet_step (fail)
                                                  go_big_quiet_step (fail)
                                                  go_big_quiet_step (fail)
                                                  go_big_quiet_step (fail)
                                                  go_big_quiet_step (fail)
                                                  go_big_quiet_step (fail)
                                                  as_aux_lemma =>
                                                  go_big_quiet_step (fail)
                                                  go_big_quiet_step (fail)
                                                  go_big_quiet_step (fail)
                                                  go_big_quiet_step (fail)
                                                  go_big_quiet_step (fail)
                                                  go_big_quiet_step (fail)
                                                  go_big_quiet_step (fail)
                                                  go_big_quiet_step (fail)
                                                  as_aux_lemma =>
                                                  go_big_quiet_step (fail)
                                                  go_big_quiet_step (fail)
                                                  go_big_quiet_step (fail)
                                                  go_big_quiet_step (fail)
                                                  go_big_quiet_step (fail)
                                                  go_big_quiet_step (fail)
                                                  go_big_quiet_step (fail)
                                                  go_big_quiet_step (fail)
                                                  as_aux_lemma =>
                                                  go_big_quiet_step (fail)
                                                  go_big_quiet_step (fail)
                                                  go_big_quiet_step (fail)
                                                  go_big_quiet_step (fail)
                                                  go_big_quiet_step (fail)
                                                  go_big_quiet_step (fail)
                                                  go_big_quiet_step (fail)
                                                  go_big_quiet_step (fail)
                                                  as_aux_lemma =>
                                                  go_big_quiet_step (fail)
                                                  go_big_quiet_step (fail)
                                                  go_big_quiet_step (fail)
                                                  go_big_quiet_step (fail)
                                                  go_big_quiet_step (fail)
                                                  go_big_quiet_step (fail)
                                                  go_big_quiet_step (fail)
                                                  go_big_quiet_step (fail)
                                                  as_aux_lemma =>
                                                  go_big_quiet_step (fail)
                                                  go_big_quiet_step (fail)
                                                  go_big_quiet_step (fail)
                                                  go_big_quiet_step (fail)
                                                  go_big_quiet_step (fail)
                                                  go_big_quiet_step (fail)
                                                  go_big_quiet_step (fail)
                                                  go_big_quiet_step (fail)
                                                  as_aux_lemma =>
                                                  go_big_quiet_step (fail)
                                                  go_big_quiet_step (fail)
                                                  go_big_quiet_step (fail)
                                                  go_big_quiet_step (fail)
                                                  go_big_quiet_step (fail)
                                                  go_big_quiet_step (fail)
                                                  go_big_quiet_step (fail)
                                                  go_big_quiet_step (fail)
                                                  as_aux_lemma =>
                                                  go_big_quiet_step (fail)
                                                  go_big_quiet_step (fail)
                                                  go_big_quiet_step (fail)
                                                  go_big_quiet_step (fail)
                                                  as_aux_lemma =>
                                                  refine wpQuiet_nil ?_
                                                  intro _ hw'
                                                  obtain ⟨nq, hw''⟩ := hw'
                                                  subst hw''
                                                  try go_wp2
                                                  go_roundg k3
                                                  case measure => have := HK1.out; have := HJ18.out; have := HK3.out; omega
                                                  case rel => exact ⟨(wrap64 (x11_3 + 1)), (by first | rfl | (simp; done) | (simp [*]; done)), H', ⟨by have := HK1.out; have := HJ18.out; have := HK3.out; omega⟩, ⟨by (with_reducible repeat (first | apply Kd.R_alloc | apply Kd.R_drewN | apply Kd.R_drew)); exact HO_3.out⟩, ⟨by (with_reducible repeat (first | apply Kd.R_alloc | apply Kd.R_drewN | apply Kd.R_drew)); exact HO_8.out⟩, ⟨by repeat (first | (with_reducible first | exact HB.out | apply below_alloc | apply pw_below_drewN | apply below_drew1) | exact HB.out)⟩⟩
                                                · as_aux_lemma =>
                                                  rw [if_neg c50] at H
                                                  have c50b0 : ((a0.extract (((rd_T33 t177 x11_3).f3) : Int).toNat ((wrap64 (((rd_T33 t177 x11_3).f3) + (((rd_T33 t177 x11_3).f1).size : Int))) : Int).toNat).toList == ((rd_T33 t177 x11_3).f1).toList) = false := beq_eq_false_iff_ne.mpr c50
                                                  have c50b1 : ((a0.extract (((rd_T33 t177 x11_3).f3) : Int).toNat ((wrap64 (((rd_T33 t177 x11_3).f3) + (((rd_T33 t177 x11_3).f1).size : Int))) : Int).toNat).toList != ((rd_T33 t177 x11_3).f1).toList) = true := bne_iff_ne.mpr c50
                                                  obtain rfl := Option.some.inj H
                                                  have p189 : 0 ≤ (x11_3 : Int) := of_decide_eq_true (by first | (with_reducible assumption) | assumption)
                                                  have q189 : x11_3 < (t177.length : Int) := of_decide_eq_true (by first | (with_reducible assumption) | assumption)
                                                  obtain ⟨ad189, e189, hx189_0, hx189_1, hx189_2, hx189_3⟩ := at_T33 (Kd.R_reads' HO_3.out).2.2 x11_3 p189 q189
                                                  cases e189
                                                  replace p189 := eq_true p189
                                                  replace q189 := eq_true q189
                                                  obtain ⟨Ao52, co52, eo52⟩ := Kd.R_slice HO_8.out
                                                  subst eo52
                                                  have p190 : 0 ≤ (x11_3 : Int) := of_decide_eq_true (by first | (with_reducible assumption) | assumption)
                                                  have q190 : x11_3 < (t184.length : Int) := of_decide_eq_true (by first | (with_reducible assumption) | assumption)
                                                  obtain ⟨ad190, e190, hx190_0, hx190_1, hx190_2, hx190_3⟩ := at_T33 (Kd.R_reads' HO_8.out).2.2 x11_3 p190 q190
                                                  cases e190
                                                  replace p190 := eq_true p190
                                                  replace q190 := eq_true q190
                                                  have p191 : 0 ≤ (x11_3 : Int) := of_decide_eq_true (by first | (with_reducible assumption) | assumption)
                                                  have q191 : x11_3 < (t177.length : Int) := of_decide_eq_true (by first | (with_reducible assumption) | assumption)
                                                  obtain ⟨ad191, e191, hx191_0, hx191_1, hx191_2, hx191_3⟩ := at_T33 (Kd.R_reads' HO_3.out).2.2 x11_3 p191 q191
                                                  obtain rfl : ad189 = ad191 := (by injection e191)
                                                  replace p191 := eq_true p191
                                                  replace q191 := eq_true q191
                                                  have p192 : 0 ≤ (x11_3 : Int) := of_decide_eq_true (by first | (with_reducible assumption) | assumption)
                                                  have q192 : x11_3 < (t184.length : Int) := of_decide_eq_true (by first | (with_reducible assumption) | assumption)
                                                  obtain ⟨ad192, e192, hx192_0, hx192_1, hx192_2, hx192_3⟩ := at_T33 (Kd.R_reads' HO_8.out).2.2 x11_3 p192 q192
                                                  obtain rfl : ad190 = ad192 := (by injection e192)
                                                  replace p192 := eq_true p192
                                                  replace q192 := eq_true q192
                                                  have p193 : 0 ≤ (x11_3 : Int) := of_decide_eq_true (by first | (with_reducible assumption) | assumption)
                                                  have q193 : x11_3 < (t177.length : Int) := of_decide_eq_true (by first | (with_reducible assumption) | assumption)
                                                  obtain ⟨ad193, e193, hx193_0, hx193_1, hx193_2, hx193_3⟩ := at_T33 (Kd.R_reads' HO_3.out).2.2 x11_3 p193 q193
                                                  obtain rfl : ad189 = ad193 := (by injection e193)
                                                  replace p193 := eq_true p193
                                                  replace q193 := eq_true q193
                                                  have p194 : 0 ≤ (x11_3 : Int) := of_decide_eq_true (by first | (with_reducible assumption) | assumption)
                                                  have q194 : x11_3 < (t184.length : Int) := of_decide_eq_true (by first | (with_reducible assumption) | assumption)
                                                  obtain ⟨ad194, e194, hx194_0, hx194_1, hx194_2, hx194_3⟩ := at_T33 (Kd.R_reads' HO_8.out).2.2 x11_3 p194 q194
                                                  obtain rfl : ad190 = ad194 := (by injection e194)
                                                  replace p194 := eq_true p194
                                                  replace q194 := eq_true q194
                                                  have p195 : 0 ≤ (x11_3 : Int) := of_decide_eq_true (by first | (with_reducible assumption) | assumption)
                                                  have q195 : x11_3 < (t177.length : Int) := of_decide_eq_true (by first | (with_reducible assumption) | assumption)
                                                  obtain ⟨ad195, e195, hx195_0, hx195_1, hx195_2, hx195_3⟩ := at_T33 (Kd.R_reads' HO_3.out).2.2 x11_3 p195 q195
                                                  obtain rfl : ad189 = ad195 := (by injection e195)
                                                  replace p195 := eq_true p195
                                                  replace q195 := eq_true q195
                                                  have p196 : 0 ≤ (x11_3 : Int) := of_decide_eq_true (by first | (with_reducible assumption) | assumption)
                                                  have q196 : x11_3 < (t177.length : Int) := of_decide_eq_true (by first | (with_reducible assumption) | assumption)
                                                  obtain ⟨ad196, e196, hx196_0, hx196_1, hx196_2, hx196_3⟩ := at_T33 (Kd.R_reads' HO_3.out).2.2 x11_3 p196 q196
                                                  obtain rfl : ad189 = ad196 := (by injection e196)
                                                  replace p196 := eq_true p196
                                                  replace q196 := eq_true q196
                                                  have p204 : 0 ≤ (x11_3 : Int) := of_decide_eq_true (by first | (with_reducible assumption) | assumption)
                                                  have q204 : x11_3 < (t177.length : Int) := of_decide_eq_true (by first | (with_reducible assumption) | assumption)
                                                  obtain ⟨ad204, e204, hx204_0, hx204_1, hx204_2, hx204_3⟩ := at_T33 (Kd.R_reads' HO_3.out).2.2 x11_3 p204 q204
                                                  obtain rfl : ad189 = ad204 := (by injection e204)
                                                  replace p204 := eq_true p204
                                                  replace q204 := eq_true q204
                                                  have p205 : 0 ≤ (x11_3 : Int) := of_decide_eq_true (by first | (with_reducible assumption) | assumption)
                                                  have q205 : x11_3 < (t177.length : Int) := of_decide_eq_true (by first | (with_reducible assumption) | assumption)
                                                  obtain ⟨ad205, e205, hx205_0, hx205_1, hx205_2, hx205_3⟩ := at_T33 (Kd.R_reads' HO_3.out).2.2 x11_3 p205 q205
                                                  obtain rfl : ad189 = ad205 := (by injection e205)
                                                  replace p205 := eq_true p205
                                                  replace q205 := eq_true q205
                                                  have p206 : 0 ≤ (x11_3 : Int) := of_decide_eq_true (by first | (with_reducible assumption) | assumption)
                                                  have q206 : x11_3 < (t177.length : Int) := of_decide_eq_true (by first | (with_reducible assumption) | assumption)
                                                  obtain ⟨ad206, e206, hx206_0, hx206_1, hx206_2, hx206_3⟩ := at_T33 (Kd.R_reads' HO_3.out).2.2 x11_3 p206 q206
                                                  obtain rfl : ad189 = ad206 := (by injection e206)
                                                  replace p206 := eq_true p206
                                                  replace q206 := eq_true q206
                                                  have p207 : 0 ≤ (x11_3 : Int) := of_decide_eq_true (by first | (with_reducible assumption) | assumption)
                                                  have q207 : x11_3 < (t177.length : Int) := of_decide_eq_true (by first | (with_reducible assumption) | assumption)
                                                  obtain ⟨ad207, e207, hx207_0, hx207_1, hx207_2, hx207_3⟩ := at_T33 (Kd.R_reads' HO_3.out).2.2 x11_3 p207 q207
                                                  obtain rfl : ad189 = ad207 := (by injection e207)
                                                  replace p207 := eq_true p207
                                                  replace q207 := eq_true q207
                                                  go_wp2
                                                  refine wp_region_quiet_lit (by kernel_rfl) again_lexB ?_
                                                  go_big_quiet_step (fail)
                                                  go_big_quiet_step (fail)
                                                  go_big_quiet_step (fail)
                                                  go_big_quiet_step (fail)
                                                  go_big_quiet_step (fail)
                                                  go_big_quiet_step (fail)
                                                  go_big_quiet_step (fail)
                                                  go_big_quiet_step (fail)
                                                  as_aux_lemma =>
                                                  go_big_quiet_step (fail)
                                                  go_big_quiet_step (fail)
                                                  go_big_quiet_step (fail)
                                                  go_big_quiet_step (fail)
                                                  go_big_quiet_step (fail)
                                                  go_big_quiet_step (fail)
                                                  go_big_quiet_step (fail)
                                                  go_big_quiet_step (fail)
                                                  as_aux_lemma =>
                                                  go_big_quiet_step (fail)
                                                  go_big_quiet_step (fail)
                                                  go_big_quiet_step (fail)
                                                  go_big_quiet_step (fail)
                                                  go_big_quiet_step (fail)
                                                  go_big_quiet_step (fail)
                                                  go_big_quiet_step (fail)
                                                  go_big_quiet_step (fail)
                                                  as_aux_lemma =>
                                                  go_big_quiet_step (fail)
                                                  go_big_quiet_step (fail)
                                                  go_big_quiet_step (fail)
                                                  go_big_quiet_step (fail)
                                                  go_big_quiet_step (fail)
                                                  go_big_quiet_step (fail)
                                                  go_big_quiet_step (fail)
                                                  go_big_quiet_step (fail)
                                                  as_aux_lemma =>
                                                  go_big_quiet_step (fail)
                                                  go_big_quiet_step (fail)
                                                  go_big_quiet_step (fail)
                                                  go_big_quiet_step (fail)
                                                  go_big_quiet_step (fail)
                                                  go_big_quiet_step (fail)
                                                  go_big_quiet_step (fail)
                                                  go_big_quiet_step (fail)
                                                  as_aux_lemma =>
                                                  go_big_quiet_step (fail)
                                                  go_big_quiet_step (fail)
                                                  go_big_quiet_step (fail)
                                                  go_big_quiet_step (fail)
                                                  go_big_quiet_step (fail)
                                                  go_big_quiet_step (fail)
                                                  go_big_quiet_step (fail)
                                                  go_big_quiet_step (fail)
                                                  as_aux_lemma =>
                                                  go_big_quiet_step (fail)
                                                  go_big_quiet_step (fail)
                                                  go_big_quiet_step (fail)
                                                  go_big_quiet_step (fail)
                                                  go_big_quiet_step (fail)
                                                  go_big_quiet_step (fail)
                                                  go_big_quiet_step (fail)
                                                  go_big_quiet_step (fail)
                                                  as_aux_lemma =>
                                                  go_big_quiet_step (fail)
                                                  go_big_quiet_step (fail)
                                                  go_big_quiet_step (fail)
                                                  go_big_quiet_step (fail)
                                                  go_big_quiet_step (fail)
                                                  go_big_quiet_step (fail)
                                                  go_big_quiet_step (fail)
                                                  go_big_quiet_step (fail)
                                                  as_aux_lemma =>
                                                  go_big_quiet_step (fail)
                                                  go_big_quiet_step (fail)
                                                  go_big_quiet_step (fail)
                                                  go_big_quiet_step (fail)
                                                  go_big_quiet_step (fail)
                                                  go_big_quiet_step (fail)
                                                  go_big_quiet_step (fail)
                                                  go_big_quiet_step (fail)
                                                  as_aux_lemma =>
                                                  go_big_quiet_step (fail)
                                                  go_big_quiet_step (fail)
                                                  go_big_quiet_step (fail)
                                                  go_big_quiet_step (fail)
                                                  go_big_quiet_step (fail)
                                                  go_big_quiet_step (fail)
                                                  go_big_quiet_step (fail)
                                                  go_big_quiet_step (fail)
                                                  as_aux_lemma =>
                                                  go_big_quiet_step (fail)
                                                  go_big_quiet_step (fail)
                                                  go_big_quiet_step (fail)
                                                  go_big_quiet_step (fail)
                                                  go_big_quiet_step (fail)
                                                  go_big_quiet_step (fail)
                                                  go_big_quiet_step (fail)
                                                  go_big_quiet_step (fail)
                                                  as_aux_lemma =>
                                                  go_big_quiet_step (fail)
                                                  go_big_quiet_step (fail)
                                                  go_big_quiet_step (fail)
                                                  go_big_quiet_step (fail)
                                                  go_big_quiet_step (fail)
                                                  go_big_quiet_step (fail)
                                                  go_big_quiet_step (fail)
                                                  go_big_quiet_step (fail)
                                                  as_aux_lemma =>
                                                  go_big_quiet_step (fail)
                                                  go_big_quiet_step (fail)
                                                  go_big_quiet_step (fail)
                                                  go_big_quiet_step (fail)
                                                  go_big_quiet_step (fail)
                                                  go_big_quiet_step (fail)
                                                  go_big_quiet_step (fail)
                                                  go_big_quiet_step (fail)
                                                  as_aux_lemma =>
                                                  go_big_quiet_step (fail)
                                                  go_big_quiet_step (fail)
                                                  go_big_quiet_step (fail)
                                                  go_big_quiet_step (fail)
                                                  as_aux_lemma =>
                                                  refine wpQuiet_nil ?_
                                                  intro _ hw'
                                                  obtain ⟨nq, hw''⟩ := hw'
                                                  subst hw''
                                                  try go_wp2
                                                  go_ret
                                                  exact ⟨by first | rfl | (simp [errW_none, errW_some] <;> rfl) | (simp [*, errW_none, errW_some] <;> rfl), by repeat (first | (with_reducible first | exact HB.out | apply below_alloc | apply pw_below_drewN | apply below_drew1) | exact HB.out)⟩
                                              · as_aux_lemma =>
                                                rw [if_neg c49] at H
                                                exact absurd H (by simp)
                                            · as_aux_lemma =>
                                              rw [if_neg c48] at H
                                              exact absurd H (by simp)
                                          · as_aux_lemma =>
                                            rw [if_neg c47] at H
                                            exact absurd H (by simp)
                                  · as_aux_lemma =>
                                    rw [if_neg c30] at H
                                    have c30b0 : (((rd_T33 t177 x11_3).f2) == ((rd_T33 t184 x11_3).f2)) = false := beq_eq_false_iff_ne.mpr c30
                                    have c30b1 : (((rd_T33 t177 x11_3).f2) != ((rd_T33 t184 x11_3).f2)) = true := bne_iff_ne.mpr c30
                                    obtain rfl := Option.some.inj H
                                    have p189 : 0 ≤ (x11_3 : Int) := of_decide_eq_true (by first | (with_reducible assumption) | assumption)
                                    have q189 : x11_3 < (t177.length : Int) := of_decide_eq_true (by first | (with_reducible assumption) | assumption)
                                    obtain ⟨ad189, e189, hx189_0, hx189_1, hx189_2, hx189_3⟩ := at_T33 (Kd.R_reads' HO_3.out).2.2 x11_3 p189 q189
                                    cases e189
                                    replace p189 := eq_true p189
                                    replace q189 := eq_true q189
                                    obtain ⟨Ao53, co53, eo53⟩ := Kd.R_slice HO_8.out
                                    subst eo53
                                    have p190 : 0 ≤ (x11_3 : Int) := of_decide_eq_true (by first | (with_reducible assumption) | assumption)
                                    have q190 : x11_3 < (t184.length : Int) := of_decide_eq_true (by first | (with_reducible assumption) | assumption)
                                    obtain ⟨ad190, e190, hx190_0, hx190_1, hx190_2, hx190_3⟩ := at_T33 (Kd.R_reads' HO_8.out).2.2 x11_3 p190 q190
                                    cases e190
                                    replace p190 := eq_true p190
                                    replace q190 := eq_true q190
                                    have p191 : 0 ≤ (x11_3 : Int) := of_decide_eq_true (by first | (with_reducible assumption) | assumption)
                                    have q191 : x11_3 < (t177.length : Int) := of_decide_eq_true (by first | (with_reducible assumption) | assumption)
                                    obtain ⟨ad191, e191, hx191_0, hx191_1, hx191_2, hx191_3⟩ := at_T33 (Kd.R_reads' HO_3.out).2.2 x11_3 p191 q191
                                    obtain rfl : ad189 = ad191 := (by injection e191)
                                    replace p191 := eq_true p191
                                    replace q191 := eq_true q191
                                    have p192 : 0 ≤ (x11_3 : Int) := of_decide_eq_true (by first | (with_reducible assumption) | assumption)
                                    have q192 : x11_3 < (t184.length : Int) := of_decide_eq_true (by first | (with_reducible assumption) | assumption)
                                    obtain ⟨ad192, e192, hx192_0, hx192_1, hx192_2, hx192_3⟩ := at_T33 (Kd.R_reads' HO_8.out).2.2 x11_3 p192 q192
                                    obtain rfl : ad190 = ad192 := (by injection e192)
                                    replace p192 := eq_true p192
                                    replace q192 := eq_true q192
                                    have p193 : 0 ≤ (x11_3 : Int) := of_decide_eq_true (by first | (with_reducible assumption) | assumption)
                                    have q193 : x11_3 < (t177.length : Int) := of_decide_eq_true (by first | (with_reducible assumption) | assumption)
                                    obtain ⟨ad193, e193, hx193_0, hx193_1, hx193_2, hx193_3⟩ := at_T33 (Kd.R_reads' HO_3.out).2.2 x11_3 p193 q193
                                    obtain rfl : ad189 = ad193 := (by injection e193)
                                    replace p193 := eq_true p193
                                    replace q193 := eq_true q193
                                    have p194 : 0 ≤ (x11_3 : Int) := of_decide_eq_true (by first | (with_reducible assumption) | assumption)
                                    have q194 : x11_3 < (t184.length : Int) := of_decide_eq_true (by first | (with_reducible assumption) | assumption)
                                    obtain ⟨ad194, e194, hx194_0, hx194_1, hx194_2, hx194_3⟩ := at_T33 (Kd.R_reads' HO_8.out).2.2 x11_3 p194 q194
                                    obtain rfl : ad190 = ad194 := (by injection e194)
                                    replace p194 := eq_true p194
                                    replace q194 := eq_true q194
                                    go_wp2
                                    refine wp_region_quiet_lit (by kernel_rfl) again_lexB ?_
                                    go_big_quiet_step (fail)
                                    go_big_quiet_step (fail)
                                    go_big_quiet_step (fail)
                                    go_big_quiet_step (fail)
                                    go_big_quiet_step (fail)
                                    go_big_quiet_step (fail)
                                    go_big_quiet_step (fail)
                                    go_big_quiet_step (fail)
                                    as_aux_lemma =>
                                    go_big_quiet_step (fail)
                                    go_big_quiet_step (fail)
                                    go_big_quiet_step (fail)
                                    go_big_quiet_step (fail)
                                    go_big_quiet_step (fail)
                                    go_big_quiet_step (fail)
                                    go_big_quiet_step (fail)
                                    go_big_quiet_step (fail)
                                    as_aux_lemma =>
                                    go_big_quiet_step (fail)
                                    go_big_quiet_step (fail)
                                    go_big_quiet_step (fail)
                                    go_big_quiet_step (fail)
                                    go_big_quiet_step (fail)
                                    go_big_quiet_step (fail)
                                    go_big_quiet_step (fail)
                                    go_big_quiet_step (fail)
                                    as_aux_lemma =>
                                    go_big_quiet_step (fail)
                                    go_big_quiet_step (fail)
                                    go_big_quiet_step (fail)
                                    go_big_quiet_step (fail)
                                    go_big_quiet_step (fail)
                                    go_big_quiet_step (fail)
                                    go_big_quiet_step (fail)
                                    go_big_quiet_step (fail)
                                    as_aux_lemma =>
                                    go_big_quiet_step (fail)
                                    go_big_quiet_step (fail)
                                    go_big_quiet_step (fail)
                                    go_big_quiet_step (fail)
                                    go_big_quiet_step (fail)
                                    go_big_quiet_step (fail)
                                    go_big_quiet_step (fail)
                                    go_big_quiet_step (fail)
                                    as_aux_lemma =>
                                    go_big_quiet_step (fail)
                                    go_big_quiet_step (fail)
                                    go_big_quiet_step (fail)
                                    go_big_quiet_step (fail)
                                    go_big_quiet_step (fail)
                                    go_big_quiet_step (fail)
                                    go_big_quiet_step (fail)
                                    go_big_quiet_step (fail)
                                    as_aux_lemma =>
                                    go_big_quiet_step (fail)
                                    go_big_quiet_step (fail)
                                    go_big_quiet_step (fail)
                                    go_big_quiet_step (fail)
                                    go_big_quiet_step (fail)
                                    go_big_quiet_step (fail)
                                    go_big_quiet_step (fail)
                                    go_big_quiet_step (fail)
                                    as_aux_lemma =>
                                    go_big_quiet_step (fail)
                                    go_big_quiet_step (fail)
                                    go_big_quiet_step (fail)
                                    go_big_quiet_step (fail)
                                    go_big_quiet_step (fail)
                                    go_big_quiet_step (fail)
                                    go_big_quiet_step (fail)
                                    go_big_quiet_step (fail)
                                    as_aux_lemma =>
                                    go_big_quiet_step (fail)
                                    go_big_quiet_step (fail)
                                    go_big_quiet_step (fail)
                                    go_big_quiet_step (fail)
                                    go_big_quiet_step (fail)
                                    go_big_quiet_step (fail)
                                    go_big_quiet_step (fail)
                                    go_big_quiet_step (fail)
                                    as_aux_lemma =>
                                    go_big_quiet_step (fail)
                                    go_big_quiet_step (fail)
                                    go_big_quiet_step (fail)
                                    go_big_quiet_step (fail)
                                    go_big_quiet_step (fail)
                                    go_big_quiet_step (fail)
                                    go_big_quiet_step (fail)
                                    go_big_quiet_step (fail)
                                    as_aux_lemma =>
                                    go_big_quiet_step (fail)
                                    go_big_quiet_step (fail)
                                    go_big_quiet_step (fail)
                                    go_big_quiet_step (fail)
                                    go_big_quiet_step (fail)
                                    go_big_quiet_step (fail)
                                    go_big_quiet_step (fail)
                                    go_big_quiet_step (fail)
                                    as_aux_lemma =>
                                    go_big_quiet_step (fail)
                                    go_big_quiet_step (fail)
                                    go_big_quiet_step (fail)
                                    go_big_quiet_step (fail)
                                    go_big_quiet_step (fail)
                                    go_big_quiet_step (fail)
                                    go_big_quiet_step (fail)
                                    go_big_quiet_step (fail)
                                    as_aux_lemma =>
                                    go_big_quiet_step (fail)
                                    go_big_quiet_step (fail)
                                    go_big_quiet_step (fail)
                                    go_big_quiet_step (fail)
                                    go_big_quiet_step (fail)
                                    go_big_quiet_step (fail)
                                    go_big_quiet_step (fail)
                                    go_big_quiet_step (fail)
                                    as_aux_lemma =>
                                    go_big_quiet_step (fail)
                                    go_big_quiet_step (fail)
                                    go_big_quiet_step (fail)
                                    go_big_quiet_step (fail)
                                    as_aux_lemma =>
                                    refine wpQuiet_nil ?_
                                    intro _ hw'
                                    obtain ⟨nq, hw''⟩ := hw'
                                    subst hw''
                                    try go_wp2
                                    go_ret
                                    exact ⟨by first | rfl | (simp [errW_none, errW_some] <;> rfl) | (simp [*, errW_none, errW_some] <;> rfl), by repeat (first | (with_reducible first | exact HB.out | apply below_alloc | apply pw_below_drewN | apply below_drew1) | exact HB.out)⟩
                                · as_aux_lemma =>
                                  rw [if_neg c29] at H
                                  have c29b0 : (((rd_T33 t177 x11_3).f1).toList == ((rd_T33 t184 x11_3).f1).toList) = false := beq_eq_false_iff_ne.mpr c29
                                  have c29b1 : (((rd_T33 t177 x11_3).f1).toList != ((rd_T33 t184 x11_3).f1).toList) = true := bne_iff_ne.mpr c29
                                  obtain rfl := Option.some.inj H
                                  have p189 : 0 ≤ (x11_3 : Int) := of_decide_eq_true (by first | (with_reducible assumption) | assumption)
                                  have q189 : x11_3 < (t177.length : Int) := of_decide_eq_true (by first | (with_reducible assumption) | assumption)
                                  obtain ⟨ad189, e189, hx189_0, hx189_1, hx189_2, hx189_3⟩ := at_T33 (Kd.R_reads' HO_3.out).2.2 x11_3 p189 q189
                                  cases e189
                                  replace p189 := eq_true p189
                                  replace q189 := eq_true q189
                                  obtain ⟨Ao54, co54, eo54⟩ := Kd.R_slice HO_8.out
                                  subst eo54
                                  have p190 : 0 ≤ (x11_3 : Int) := of_decide_eq_true (by first | (with_reducible assumption) | assumption)
                                  have q190 : x11_3 < (t184.length : Int) := of_decide_eq_true (by first | (with_reducible assumption) | assumption)
                                  obtain ⟨ad190, e190, hx190_0, hx190_1, hx190_2, hx190_3⟩ := at_T33 (Kd.R_reads' HO_8.out).2.2 x11_3 p190 q190
                                  cases e190
                                  replace p190 := eq_true p190
                                  replace q190 := eq_true q190
                                  have p191 : 0 ≤ (x11_3 : Int) := of_decide_eq_true (by first | (with_reducible assumption) | assumption)
                                  have q191 : x11_3 < (t177.length : Int) := of_decide_eq_true (by first | (with_reducible assumption) | assumption)
                                  obtain ⟨ad191, e191, hx191_0, hx191_1, hx191_2, hx191_3⟩ := at_T33 (Kd.R_reads' HO_3.out).2.2 x11_3 p191 q191
                                  obtain rfl : ad189 = ad191 := (by injection e191)
                                  replace p191 := eq_true p191
                                  replace q191 := eq_true q191
                                  have p192 : 0 ≤ (x11_3 : Int) := of_decide_eq_true (by first | (with_reducible assumption) | assumption)
                                  have q192 : x11_3 < (t184.length : Int) := of_decide_eq_true (by first | (with_reducible assumption) | assumption)
                                  obtain ⟨ad192, e192, hx192_0, hx192_1, hx192_2, hx192_3⟩ := at_T33 (Kd.R_reads' HO_8.out).2.2 x11_3 p192 q192
                                  obtain rfl : ad190 = ad192 := (by injection e192)
                                  replace p192 := eq_true p192
                                  replace q192 := eq_true q192
                                  go_wp2
                                  refine wp_region_quiet_lit (by kernel_rfl) again_lexB ?_
                                  go_big_quiet_step (fail)
                                  go_big_quiet_step (fail)
                                  go_big_quiet_step (fail)
                                  go_big_quiet_step (fail)
                                  go_big_quiet_step (fail)
                                  go_big_quiet_step (fail)
                                  go_big_quiet_step (fail)
                                  go_big_quiet_step (fail)
                                  as_aux_lemma =>
                                  go_big_quiet_step (fail)
                                  go_big_quiet_step (fail)
                                  go_big_quiet_step (fail)
                                  go_big_quiet_step (fail)
                                  go_big_quiet_step (fail)
                                  go_big_quiet_step (fail)
                                  go_big_quiet_step (fail)
                                  go_big_quiet_step (fail)
                                  as_aux_lemma =>
                                  go_big_quiet_step (fail)
                                  go_big_quiet_step (fail)
                                  go_big_quiet_step (fail)
                                  go_big_quiet_step (fail)
                                  go_big_quiet_step (fail)
                                  go_big_quiet_step (fail)
                                  go_big_quiet_step (fail)
                                  go_big_quiet_step (fail)
                                  as_aux_lemma =>
                                  go_big_quiet_step (fail)
                                  go_big_quiet_step (fail)
                                  go_big_quiet_step (fail)
                                  go_big_quiet_step (fail)
                                  go_big_quiet_step (fail)
                                  go_big_quiet_step (fail)
                                  go_big_quiet_step (fail)
                                  go_big_quiet_step (fail)
                                  as_aux_lemma =>
                                  go_big_quiet_step (fail)
                                  go_big_quiet_step (fail)
                                  go_big_quiet_step (fail)
                                  go_big_quiet_step (fail)
                                  go_big_quiet_step (fail)
                                  go_big_quiet_step (fail)
                                  go_big_quiet_step (fail)
                                  go_big_quiet_step (fail)
                                  as_aux_lemma =>
                                  go_big_quiet_step (fail)
                                  go_big_quiet_step (fail)
                                  go_big_quiet_step (fail)
                                  go_big_quiet_step (fail)
                                  go_big_quiet_step (fail)
                                  go_big_quiet_step (fail)
                                  go_big_quiet_step (fail)
                                  go_big_quiet_step (fail)
                                  as_aux_lemma =>
                                  go_big_quiet_step (fail)
                                  go_big_quiet_step (fail)
                                  go_big_quiet_step (fail)
                                  go_big_quiet_step (fail)
                                  go_big_quiet_step (fail)
                                  go_big_quiet_step (fail)
                                  go_big_quiet_step (fail)
                                  go_big_quiet_step (fail)
                                  as_aux_lemma =>
                                  go_big_quiet_step (fail)
                                  go_big_quiet_step (fail)
                                  go_big_quiet_step (fail)
                                  go_big_quiet_step (fail)
                                  go_big_quiet_step (fail)
                                  go_big_quiet_step (fail)
                                  go_big_quiet_step (fail)
                                  go_big_quiet_step (fail)
                                  as_aux_lemma =>
                                  go_big_quiet_step (fail)
                                  go_big_quiet_step (fail)
                                  go_big_quiet_step (fail)
                                  go_big_quiet_step (fail)
                                  go_big_quiet_step (fail)
                                  go_big_quiet_step (fail)
                                  go_big_quiet_step (fail)
                                  go_big_quiet_step (fail)
                                  as_aux_lemma =>
                                  go_big_quiet_step (fail)
                                  go_big_quiet_step (fail)
                                  go_big_quiet_step (fail)
                                  go_big_quiet_step (fail)
                                  go_big_quiet_step (fail)
                                  go_big_quiet_step (fail)
                                  go_big_quiet_step (fail)
                                  go_big_quiet_step (fail)
                                  as_aux_lemma =>
                                  go_big_quiet_step (fail)
                                  go_big_quiet_step (fail)
                                  go_big_quiet_step (fail)
                                  go_big_quiet_step (fail)
                                  go_big_quiet_step (fail)
                                  go_big_quiet_step (fail)
                                  go_big_quiet_step (fail)
                                  go_big_quiet_step (fail)
                                  as_aux_lemma =>
                                  go_big_quiet_step (fail)
                                  go_big_quiet_step (fail)
                                  go_big_quiet_step (fail)
                                  go_big_quiet_step (fail)
                                  go_big_quiet_step (fail)
                                  go_big_quiet_step (fail)
                                  go_big_quiet_step (fail)
                                  go_big_quiet_step (fail)
                                  as_aux_lemma =>
                                  go_big_quiet_step (fail)
                                  go_big_quiet_step (fail)
                                  go_big_quiet_step (fail)
                                  go_big_quiet_step (fail)
                                  go_big_quiet_step (fail)
                                  go_big_quiet_step (fail)
                                  go_big_quiet_step (fail)
                                  go_big_quiet_step (fail)
                                  as_aux_lemma =>
                                  go_big_quiet_step (fail)
                                  go_big_quiet_step (fail)
                                  go_big_quiet_step (fail)
                                  go_big_quiet_step (fail)
                                  as_aux_lemma =>
                                  refine wpQuiet_nil ?_
                                  intro _ hw'
                                  obtain ⟨nq, hw''⟩ := hw'
                                  subst hw''
                                  try go_wp2
                                  go_ret
                                  exact ⟨by first | rfl | (simp [errW_none, errW_some] <;> rfl) | (simp [*, errW_none, errW_some] <;> rfl), by repeat (first | (with_reducible first | exact HB.out | apply below_alloc | apply pw_below_drewN | apply below_drew1) | exact HB.out)⟩
                              · as_aux_lemma =>
                                rw [if_neg c28] at H
                                have c28b0 : (((rd_T33 t177 x11_3).f0) == ((rd_T33 t184 x11_3).f0)) = false := beq_eq_false_iff_ne.mpr c28
                                have c28b1 : (((rd_T33 t177 x11_3).f0) != ((rd_T33 t184 x11_3).f0)) = true := bne_iff_ne.mpr c28
                                obtain rfl := Option.some.inj H
                                have p189 : 0 ≤ (x11_3 : Int) := of_decide_eq_true (by first | (with_reducible assumption) | assumption)
                                have q189 : x11_3 < (t177.length : Int) := of_decide_eq_true (by first | (with_reducible assumption) | assumption)
                                obtain ⟨ad189, e189, hx189_0, hx189_1, hx189_2, hx189_3⟩ := at_T33 (Kd.R_reads' HO_3.out).2.2 x11_3 p189 q189
                                cases e189
                                replace p189 := eq_true p189
                                replace q189 := eq_true q189
                                obtain ⟨Ao55, co55, eo55⟩ := Kd.R_slice HO_8.out
                                subst eo55
                                have p190 : 0 ≤ (x11_3 : Int) := of_decide_eq_true (by first | (with_reducible assumption) | assumption)
                                have q190 : x11_3 < (t184.length : Int) := of_decide_eq_true (by first | (with_reducible assumption) | assumption)
                                obtain ⟨ad190, e190, hx190_0, hx190_1, hx190_2, hx190_3⟩ := at_T33 (Kd.R_reads' HO_8.out).2.2 x11_3 p190 q190
                                cases e190
                                replace p190 := eq_true p190
                                replace q190 := eq_true q190
                                go_wp2
                                refine wp_region_quiet_lit (by kernel_rfl) again_lexB ?_
                                go_big_quiet_step (fail)
                                go_big_quiet_step (fail)
                                go_big_quiet_step (fail)
                                go_big_quiet_step (fail)
                                go_big_quiet_step (fail)
                                go_big_quiet_step (fail)
                                go_big_quiet_step (fail)
                                go_big_quiet_step (fail)
                                as_aux_lemma =>
                                go_big_quiet_step (fail)
                                go_big_quiet_step (fail)
                                go_big_quiet_step (fail)
                                go_big_quiet_step (fail)
                                go_big_quiet_step (fail)
                                go_big_quiet_step (fail)
                                go_big_quiet_step (fail)
                                go_big_quiet_step (fail)
                                as_aux_lemma =>
                                go_big_quiet_step (fail)
                                go_big_quiet_step (fail)
                                go_big_quiet_step (fail)
                                go_big_quiet_step (fail)
                                go_big_quiet_step (fail)
                                go_big_quiet_step (fail)
                                go_big_quiet_step (fail)
                                go_big_quiet_step (fail)
                                as_aux_lemma =>
                                go_big_quiet_step (fail)
                                go_big_quiet_step (fail)
                                go_big_quiet_step (fail)
                                go_big_quiet_step (fail)
                                go_big_quiet_step (fail)
                                go_big_quiet_step (fail)
                                go_big_quiet_step (fail)
                                go_big_quiet_step (fail)
                                as_aux_lemma =>
                                go_big_quiet_step (fail)
                                go_big_quiet_step (fail)
                                go_big_quiet_step (fail)
                                go_big_quiet_step (fail)
                                go_big_quiet_step (fail)
                                go_big_quiet_step (fail)
                                go_big_quiet_step (fail)
                                go_big_quiet_step (fail)
                                as_aux_lemma =>
                                go_big_quiet_step (fail)
                                go_big_quiet_step (fail)
                                go_big_quiet_step (fail)
                                go_big_quiet_step (fail)
                                go_big_quiet_step (fail)
                                go_big_quiet_step (fail)
                                go_big_quiet_step (fail)
                                go_big_quiet_step (fail)
                                as_aux_lemma =>
                                go_big_quiet_step (fail)
                                go_big_quiet_step (fail)
                                go_big_quiet_step (fail)
                                go_big_quiet_step (fail)
                                go_big_quiet_step (fail)
                                go_big_quiet_step (fail)
                                go_big_quiet_step (fail)
                                go_big_quiet_step (fail)
                                as_aux_lemma =>
                                go_big_quiet_step (fail)
                                go_big_quiet_step (fail)
                                go_big_quiet_step (fail)
                                go_big_quiet_step (fail)
                                go_big_quiet_step (fail)
                                go_big_quiet_step (fail)
                                go_big_quiet_step (fail)
                                go_big_quiet_step (fail)
                                as_aux_lemma =>
                                go_big_quiet_step (fail)
                                go_big_quiet_step (fail)
                                go_big_quiet_step (fail)
                                go_big_quiet_step (fail)
                                go_big_quiet_step (fail)
                                go_big_quiet_step (fail)
                                go_big_quiet_step (fail)
                                go_big_quiet_step (fail)
                                as_aux_lemma =>
                                go_big_quiet_step (fail)
                                go_big_quiet_step (fail)
                                go_big_quiet_step (fail)
                                go_big_quiet_step (fail)
                                go_big_quiet_step (fail)
                                go_big_quiet_step (fail)
                                go_big_quiet_step (fail)
                                go_big_quiet_step (fail)
                                as_aux_lemma =>
                                go_big_quiet_step (fail)
                                go_big_quiet_step (fail)
                                go_big_quiet_step (fail)
                                go_big_quiet_step (fail)
                                go_big_quiet_step (fail)
                                go_big_quiet_step (fail)
                                go_big_quiet_step (fail)
                                go_big_quiet_step (fail)
                                as_aux_lemma =>
                                go_big_quiet_step (fail)
                                go_big_quiet_step (fail)
                                go_big_quiet_step (fail)
                                go_big_quiet_step (fail)
                                go_big_quiet_step (fail)
                                go_big_quiet_step (fail)
                                go_big_quiet_step (fail)
                                go_big_quiet_step (fail)
                                as_aux_lemma =>
                                go_big_quiet_step (fail)
                                go_big_quiet_step (fail)
                                go_big_quiet_step (fail)
                                go_big_quiet_step (fail)
                                go_big_quiet_step (fail)
                                go_big_quiet_step (fail)
                                go_big_quiet_step (fail)
                                go_big_quiet_step (fail)
                                as_aux_lemma =>
                                go_big_quiet_step (fail)
                                go_big_quiet_step (fail)
                                go_big_quiet_step (fail)
                                go_big_quiet_step (fail)
                                as_aux_lemma =>
                                refine wpQuiet_nil ?_
                                intro _ hw'
                                obtain ⟨nq, hw''⟩ := hw'
                                subst hw''
                                try go_wp2
                                go_ret
                                exact ⟨by first | rfl | (simp [errW_none, errW_some] <;> rfl) | (simp [*, errW_none, errW_some] <;> rfl), by repeat (first | (with_reducible first | exact HB.out | apply below_alloc | apply pw_below_drewN | apply below_drew1) | exact HB.out)⟩
                            · as_aux_lemma =>
                              rw [if_neg c27] at H
                              exact absurd H (by simp)
                          · as_aux_lemma =>
                            rw [if_neg c26] at H
                            exact absurd H (by simp)
                        · as_aux_lemma =>
                          rw [if_neg c25] at H
                          have c25b0 : decide (x11_3 < (t177.length : Int)) = false := decide_eq_false c25
                          clear c25
                          obtain rfl := Option.some.inj H
                          go_wp2
                          repeat (go_quiet (fail); try go_wp2)
                          go_ret
                          exact ⟨by first | rfl | (simp [errW_none, errW_some] <;> rfl) | (simp [*, errW_none, errW_some] <;> rfl), by repeat (first | (with_reducible first | exact HB.out | apply below_alloc | apply pw_below_drewN | apply below_drew1) | exact HB.out)⟩
      · rw [if_neg c7] at H
        have c7b0 : (t179 == 0) = false := beq_eq_false_iff_ne.mpr c7
        have c7b1 : (t179 != 0) = true := bne_iff_ne.mpr c7
        obtain rfl := Option.some.inj H
        go_enter Tryd.func4, Tryd.ntmps4
        go_wp2_with (first | (go_at_call 9; (with_reducible refine (erewhilelaw33_awake.calls k  true _ ?sideU A2.out).mono ?_); (case sideU => exact Units.below HU.out (by repeat (first | (with_reducible first | exact HB.out | apply below_alloc | apply pw_below_drewN | apply below_drew1) | exact HB.out))); rintro e w56 ⟨rfl, hb⟩; have n0_ := Aside0.mk (below_step (by repeat (first | (with_reducible first | exact HB.out | apply below_alloc | apply pw_below_drewN | apply below_drew1) | exact HB.out)) hb); clear HB; have HB := n0_; clear n0_; (try clear hb); (try clear hb2); (try clear hk); (try clear hi)) | (go_at_call 10; (with_reducible refine (caltok_Lex.calls k a0 t177 t178 t179 _ ?sideU A6.out).mono ?_); (case sideU => exact Units.below HU.out (by repeat (first | (with_reducible first | exact HB.out | apply below_alloc | apply pw_below_drewN | apply below_drew1) | exact HB.out))); rintro e w57 ⟨v180, rfl, ho0, hb⟩; have n0_ := Aside0.mk (Kd.R_lower ho0 (below_size (by repeat (first | (with_reducible first | exact HB.out | apply below_alloc | apply pw_below_drewN | apply below_drew1) | exact HB.out)))); have n1_ := Aside0.mk (below_step (by repeat (first | (with_reducible first | exact HB.out | apply below_alloc | apply pw_below_drewN | apply below_drew1) | exact HB.out)) hb); clear HB; have HO181 := n0_; have HB := n1_; clear n0_ n1_; (try clear hb); (try clear hb2); (try clear hk); (try clear hi); (try clear ho0)))
        repeat (go_quiet (first | (go_at_call 9; (with_reducible refine (erewhilelaw33_awake.calls k  true _ ?sideU A2.out).mono ?_); (case sideU => exact Units.below HU.out (by repeat (first | (with_reducible first | exact HB.out | apply below_alloc | apply pw_below_drewN | apply below_drew1) | exact HB.out))); rintro e w56 ⟨rfl, hb⟩; have n0_ := Aside0.mk (below_step (by repeat (first | (with_reducible first | exact HB.out | apply below_alloc | apply pw_below_drewN | apply below_drew1) | exact HB.out)) hb); clear HB; have HB := n0_; clear n0_; (try clear hb); (try clear hb2); (try clear hk); (try clear hi)) | (go_at_call 10; (with_reducible refine (caltok_Lex.calls k a0 t177 t178 t179 _ ?sideU A6.out).mono ?_); (case sideU => exact Units.below HU.out (by repeat (first | (with_reducible first | exact HB.out | apply below_alloc | apply pw_below_drewN | apply below_drew1) | exact HB.out))); rintro e w57 ⟨v180, rfl, ho0, hb⟩; have n0_ := Aside0.mk (Kd.R_lower ho0 (below_size (by repeat (first | (with_reducible first | exact HB.out | apply below_alloc | apply pw_below_drewN | apply below_drew1) | exact HB.out)))); have n1_ := Aside0.mk (below_step (by repeat (first | (with_reducible first | exact HB.out | apply below_alloc | apply pw_below_drewN | apply below_drew1) | exact HB.out)) hb); clear HB; have HO181 := n0_; have HB := n1_; clear n0_ n1_; (try clear hb); (try clear hb2); (try clear hk); (try clear hi); (try clear ho0))); try go_wp2_with (first | (go_at_call 9; (with_reducible refine (erewhilelaw33_awake.calls k  true _ ?sideU A2.out).mono ?_); (case sideU => exact Units.below HU.out (by repeat (first | (with_reducible first | exact HB.out | apply below_alloc | apply pw_below_drewN | apply below_drew1) | exact HB.out))); rintro e w56 ⟨rfl, hb⟩; have n0_ := Aside0.mk (below_step (by repeat (first | (with_reducible first | exact HB.out | apply below_alloc | apply pw_below_drewN | apply below_drew1) | exact HB.out)) hb); clear HB; have HB := n0_; clear n0_; (try clear hb); (try clear hb2); (try clear hk); (try clear hi)) | (go_at_call 10; (with_reducible refine (caltok_Lex.calls k a0 t177 t178 t179 _ ?sideU A6.out).mono ?_); (case sideU => exact Units.below HU.out (by repeat (first | (with_reducible first | exact HB.out | apply below_alloc | apply pw_below_drewN | apply below_drew1) | exact HB.out))); rintro e w57 ⟨v180, rfl, ho0, hb⟩; have n0_ := Aside0.mk (Kd.R_lower ho0 (below_size (by repeat (first | (with_reducible first | exact HB.out | apply below_alloc | apply pw_below_drewN | apply below_drew1) | exact HB.out)))); have n1_ := Aside0.mk (below_step (by repeat (first | (with_reducible first | exact HB.out | apply below_alloc | apply pw_below_drewN | apply below_drew1) | exact HB.out)) hb); clear HB; have HO181 := n0_; have HB := n1_; clear n0_ n1_; (try clear hb); (try clear hb2); (try clear hk); (try clear hi); (try clear ho0))))
        go_ret
        exact ⟨by first | rfl | (simp [errW_none, errW_some] <;> rfl) | (simp [*, errW_none, errW_some] <;> rfl), by repeat (first | (with_reducible first | exact HB.out | apply below_alloc | apply pw_below_drewN | apply below_drew1) | exact HB.out)⟩
  · replace c3 := Bool.eq_false_iff.mpr c3
    subst c3
    have H1 : (some false) = some r := by rw [if_neg (show ¬ (false = true) by decide)] at H; exact H
    clear H
    have H := H1
    clear H1
    obtain rfl := Option.some.inj H
    go_enter Tryd.func4, Tryd.ntmps4
    go_wp2_with (first | (go_at_call 9; (with_reducible refine (erewhilelaw33_awake.calls k  false _ ?sideU A2.out).mono ?_); (case sideU => exact Units.below HU.out (by repeat (first | (with_reducible first | exact HB.out | apply below_alloc | apply pw_below_drewN | apply below_drew1) | exact HB.out))); rintro e w58 ⟨rfl, hb⟩; have n0_ := Aside0.mk (below_step (by repeat (first | (with_reducible first | exact HB.out | apply below_alloc | apply pw_below_drewN | apply below_drew1) | exact HB.out)) hb); clear HB; have HB := n0_; clear n0_; (try clear hb); (try clear hb2); (try clear hk); (try clear hi)))
    repeat (go_quiet (first | (go_at_call 9; (with_reducible refine (erewhilelaw33_awake.calls k  false _ ?sideU A2.out).mono ?_); (case sideU => exact Units.below HU.out (by repeat (first | (with_reducible first | exact HB.out | apply below_alloc | apply pw_below_drewN | apply below_drew1) | exact HB.out))); rintro e w58 ⟨rfl, hb⟩; have n0_ := Aside0.mk (below_step (by repeat (first | (with_reducible first | exact HB.out | apply below_alloc | apply pw_below_drewN | apply below_drew1) | exact HB.out)) hb); clear HB; have HB := n0_; clear n0_; (try clear hb); (try clear hb2); (try clear hk); (try clear hi))); try go_wp2_with (first | (go_at_call 9; (with_reducible refine (erewhilelaw33_awake.calls k  false _ ?sideU A2.out).mono ?_); (case sideU => exact Units.below HU.out (by repeat (first | (with_reducible first | exact HB.out | apply below_alloc | apply pw_below_drewN | apply below_drew1) | exact HB.out))); rintro e w58 ⟨rfl, hb⟩; have n0_ := Aside0.mk (below_step (by repeat (first | (with_reducible first | exact HB.out | apply below_alloc | apply pw_below_drewN | apply below_drew1) | exact HB.out)) hb); clear HB; have HB := n0_; clear n0_; (try clear hb); (try clear hb2); (try clear hk); (try clear hi))))
    go_ret
    exact ⟨by first | rfl | (simp [errW_none, errW_some] <;> rfl) | (simp [*, errW_none, errW_some] <;> rfl), by repeat (first | (with_reducible first | exact HB.out | apply below_alloc | apply pw_below_drewN | apply below_drew1) | exact HB.out)⟩


end Go.Proofs.YtmmkbdampdkjoaaDoor.All
