-- Printed by a program (wip/mkprint.sh over the kit's print.py) out of the translation; Lean checks it.
import Derived.Test.YthnifjggnjcenaaDoorAllx0
import Derived.Test.YthnifjggnjcenaaDoorAllx34
namespace Go.Proofs.YthnifjggnjcenaaDoor.All
open Go.RowKit Go.Proofs.YthnifjggnjcenaaDoorW.PrintWords Go.Proofs.YthnifjggnjcenaaDoorW.PrintLast Go.Proofs.YthnifjggnjcenaaDoorW.PrintMore
attribute [local go_sem] max2_int min2_int max_two min_two max_three min_three max_four min_four   -- for this text's walks alone
set_option linter.unusedVariables false
set_option linter.unusedSimpArgs false

/-! ### calcheck_why: function 43 -/
mutual
def calcheck_why.j0 : Nat → Int → Int → Bool → Int → Int → Int → Int → Int → Int → Option (Int)
  | 0, _, _, _, _, _, _, _, _, _ => none
  | k + 1, x1, x2, x17, x392000, x392001, x392002, x393000, x393001, x393002 => if x17 = true then (some 1) else (if x392000 = 4 then (if x393000 = 4 then (calcheck_why.j1 k x1 x2 (decide (x1 > x2)) x392000 x392001 x392002 x393000 x393001 x393002) else (calcheck_why.j1 k x1 x2 false x392000 x392001 x392002 x393000 x393001 x393002)) else (calcheck_why.j1 k x1 x2 false x392000 x392001 x392002 x393000 x393001 x393002))
def calcheck_why.j1 : Nat → Int → Int → Bool → Int → Int → Int → Int → Int → Int → Option (Int)
  | 0, _, _, _, _, _, _, _, _, _ => none
  | k + 1, x1, x2, x32, x392000, x392001, x392002, x393000, x393001, x393002 => if x32 = true then (some 2) else ((calcheck_covers.f k x393000 x393001 x393002 x392000 x392001 x392002).bind fun t394 => (if t394 = true then ((calcheck_covers.f k x392000 x392001 x392002 x393000 x393001 x393002).bind fun t395 => (if t395 = true then (if x1 > x2 then (some 3) else (some 0)) else (some 3))) else (some 0)))
end
def calcheck_why.f (k : Nat) (l0 : List (S33)) (a1 : Int) (a2 : Int) : Option (Int) := if 0 ≤ a1 then (if a1 < (l0.length : Int) then (if 0 ≤ a2 then (if a2 < (l0.length : Int) then ((calcheck_keeps.f ((rd_T33 l0 a1).f0) ((rd_T33 l0 a1).f1) ((rd_T33 l0 a1).f2)).bind fun t393 => (if t393 = true then (if ((rd_T33 l0 a2).f0) = 4 then (calcheck_why.j0 k a1 a2 (decide (((rd_T33 l0 a2).f2) < ((rd_T33 l0 a1).f2))) ((rd_T33 l0 a1).f0) ((rd_T33 l0 a1).f1) ((rd_T33 l0 a1).f2) ((rd_T33 l0 a2).f0) ((rd_T33 l0 a2).f1) ((rd_T33 l0 a2).f2)) else (calcheck_why.j0 k a1 a2 false ((rd_T33 l0 a1).f0) ((rd_T33 l0 a1).f1) ((rd_T33 l0 a1).f2) ((rd_T33 l0 a2).f0) ((rd_T33 l0 a2).f1) ((rd_T33 l0 a2).f2))) else (calcheck_why.j0 k a1 a2 false ((rd_T33 l0 a1).f0) ((rd_T33 l0 a1).f1) ((rd_T33 l0 a1).f2) ((rd_T33 l0 a2).f0) ((rd_T33 l0 a2).f1) ((rd_T33 l0 a2).f2)))) else (none)) else (none)) else (none)) else (none)
theorem calcheck_why.mono_l : ∀ k, (∀ y0 y1 y2 y3 y4 y5 y6 y7 y8, LeO (calcheck_why.j0 k y0 y1 y2 y3 y4 y5 y6 y7 y8) (calcheck_why.j0 (k + 1) y0 y1 y2 y3 y4 y5 y6 y7 y8)) ∧ (∀ y0 y1 y2 y3 y4 y5 y6 y7 y8, LeO (calcheck_why.j1 k y0 y1 y2 y3 y4 y5 y6 y7 y8) (calcheck_why.j1 (k + 1) y0 y1 y2 y3 y4 y5 y6 y7 y8))
  | 0 => ⟨fun _ _ _ _ _ _ _ _ _ r h => by simp [calcheck_why.j0] at h, fun _ _ _ _ _ _ _ _ _ r h => by simp [calcheck_why.j1] at h⟩
  | k + 1 => by
    obtain ⟨ih0, ih1⟩ := calcheck_why.mono_l k
    refine ⟨?_, ?_⟩
    · intro y0 y1 y2 y3 y4 y5 y6 y7 y8
      unfold calcheck_why.j0
      repeat' first
      | (with_reducible exact ih0 _ _ _ _ _ _ _ _ _)
      | (with_reducible exact ih1 _ _ _ _ _ _ _ _ _)
      | (with_reducible exact calcheck_covers.mono _ _ _ _ _ _ _)
      | (with_reducible exact LeO.refl _)
      | (with_reducible exact LeO.none _)
      | (with_reducible refine LeO.ite ?_ ?_)
      | (with_reducible refine LeO.bind ?_ (fun _ => ?_))
      | exact ih0 _ _ _ _ _ _ _ _ _
      | exact ih1 _ _ _ _ _ _ _ _ _
      | exact calcheck_covers.mono _ _ _ _ _ _ _
      | exact LeO.none _
      | refine LeO.ite ?_ ?_
      | refine LeO.bind ?_ (fun _ => ?_)
    · intro y0 y1 y2 y3 y4 y5 y6 y7 y8
      unfold calcheck_why.j1
      repeat' first
      | (with_reducible exact ih0 _ _ _ _ _ _ _ _ _)
      | (with_reducible exact ih1 _ _ _ _ _ _ _ _ _)
      | (with_reducible exact calcheck_covers.mono _ _ _ _ _ _ _)
      | (with_reducible exact LeO.refl _)
      | (with_reducible exact LeO.none _)
      | (with_reducible refine LeO.ite ?_ ?_)
      | (with_reducible refine LeO.bind ?_ (fun _ => ?_))
      | exact ih0 _ _ _ _ _ _ _ _ _
      | exact ih1 _ _ _ _ _ _ _ _ _
      | exact calcheck_covers.mono _ _ _ _ _ _ _
      | exact LeO.none _
      | refine LeO.ite ?_ ?_
      | refine LeO.bind ?_ (fun _ => ?_)
theorem calcheck_why.mono : ∀ a0 a1 a2 k, LeO (calcheck_why.f k a0 a1 a2) (calcheck_why.f (k + 1) a0 a1 a2) := by
  intro a0 a1 a2 k
  obtain ⟨ih0, ih1⟩ := calcheck_why.mono_l k
  unfold calcheck_why.f
  repeat' first
      | (with_reducible exact ih0 _ _ _ _ _ _ _ _ _)
      | (with_reducible exact ih1 _ _ _ _ _ _ _ _ _)
      | (with_reducible exact calcheck_covers.mono _ _ _ _ _ _ _)
      | (with_reducible exact LeO.refl _)
      | (with_reducible exact LeO.none _)
      | (with_reducible refine LeO.ite ?_ ?_)
      | (with_reducible refine LeO.bind ?_ (fun _ => ?_))
      | exact ih0 _ _ _ _ _ _ _ _ _
      | exact ih1 _ _ _ _ _ _ _ _ _
      | exact calcheck_covers.mono _ _ _ _ _ _ _
      | exact LeO.none _
      | refine LeO.ite ?_ ?_
      | refine LeO.bind ?_ (fun _ => ?_)
def calcheck_why.T1 : Bool × List (List Nat × List Nat) := (true, [([], []), ([], []), ([0, 1], [0, 1]), ([2], [2]), ([], []), ([], []), ([4, 5], [4, 5]), ([6], [6]), ([], []), ([], []), ([8, 3, 0, 1, 2, 3, 8, 9], [3, 8]), ([9, 7, 10, 0, 1, 2, 3, 4, 5, 6, 7, 8, 9, 10], [7, 9])])
def calcheck_why.B1 : List Nat := [0, 0, 3, 7, 0, 0, 48, 112, 0, 0, 783, 2047]
theorem calcheck_why.tab1 : rtab .any (opsOf Tryd.f43 1) = calcheck_why.T1 := by kernel_rfl
theorem calcheck_why.bits1 : waitsOk calcheck_why.T1.2 calcheck_why.B1 = true := by kernel_rfl
set_option maxHeartbeats 8000000 in
set_option maxRecDepth 100000 in
theorem calcheck_why.calls (k : Nat) (A0 : Option Addr) (c0 : Nat) (l0 : List (S33)) (a1 : Int) (a2 : Int) (r : Int) (w : World) (hr0 : Kd.C k33 w A0 l0.length l0) (hc0 : l0.length ≤ c0) (h : calcheck_why.f k l0 a1 a2 = some r) :
    Calls Tryd.prog 43 #[.slice A0 l0.length c0, .int .i64 a1, .int .i64 a2] w fun e w' => e = .returned (.int .i64 r) ∧ Below w.heap.size w w' := by
  have hu33 := Tryd.underlying33
  have HR0 := Aside0.mk hr0
  have HC0 := Aside0.mk hc0
  clear hr0 hc0
  have HB := Aside0.mk (Below.refl w.heap.size w)
  have H : (if 0 ≤ a1 then (if a1 < (l0.length : Int) then (if 0 ≤ a2 then (if a2 < (l0.length : Int) then ((calcheck_keeps.f ((rd_T33 l0 a1).f0) ((rd_T33 l0 a1).f1) ((rd_T33 l0 a1).f2)).bind fun t393 => (if t393 = true then (if ((rd_T33 l0 a2).f0) = 4 then (calcheck_why.j0 k a1 a2 (decide (((rd_T33 l0 a2).f2) < ((rd_T33 l0 a1).f2))) ((rd_T33 l0 a1).f0) ((rd_T33 l0 a1).f1) ((rd_T33 l0 a1).f2) ((rd_T33 l0 a2).f0) ((rd_T33 l0 a2).f1) ((rd_T33 l0 a2).f2)) else (calcheck_why.j0 k a1 a2 false ((rd_T33 l0 a1).f0) ((rd_T33 l0 a1).f1) ((rd_T33 l0 a1).f2) ((rd_T33 l0 a2).f0) ((rd_T33 l0 a2).f1) ((rd_T33 l0 a2).f2))) else (calcheck_why.j0 k a1 a2 false ((rd_T33 l0 a1).f0) ((rd_T33 l0 a1).f1) ((rd_T33 l0 a1).f2) ((rd_T33 l0 a2).f0) ((rd_T33 l0 a2).f1) ((rd_T33 l0 a2).f2)))) else (none)) else (none)) else (none)) else (none)) = some r := h
  clear h
  by_cases c4 : 0 ≤ a1
  · rw [if_pos c4] at H
    have c4b0 : decide (0 ≤ a1) = true := decide_eq_true c4
    clear c4
    by_cases c5 : a1 < (l0.length : Int)
    · rw [if_pos c5] at H
      have c5b0 : decide (a1 < (l0.length : Int)) = true := decide_eq_true c5
      clear c5
      by_cases c6 : 0 ≤ a2
      · rw [if_pos c6] at H
        have c6b0 : decide (0 ≤ a2) = true := decide_eq_true c6
        clear c6
        by_cases c7 : a2 < (l0.length : Int)
        · rw [if_pos c7] at H
          have c7b0 : decide (a2 < (l0.length : Int)) = true := decide_eq_true c7
          clear c7
          have HC8 := Aside0.mk H
          clear H
          go_enter Tryd.func43, Tryd.ntmps43
          try go_wp2
          have n0_ := Aside0.mk (below_drew1 HB.out)
          clear HB
          have HB := n0_
          clear n0_
          have p389 : 0 ≤ (a1 : Int) := of_decide_eq_true (by first | (with_reducible assumption) | assumption)
          have q389 : a1 < (l0.length : Int) := of_decide_eq_true (by first | (with_reducible assumption) | assumption)
          obtain ⟨ad389, e389, hx389_0, hx389_1, hx389_2⟩ := at_T33 HR0.out a1 p389 q389
          have hw389_2 := hx389_2
          have hw389_1 := hx389_1
          have hw389_0 := hx389_0
          cases e389
          replace hx389_0 := (HB.out.cell (World.block_lt_of_cell? w _ hx389_0)).trans hx389_0
          replace hx389_1 := (HB.out.cell (World.block_lt_of_cell? w _ hx389_1)).trans hx389_1
          replace hx389_2 := (HB.out.cell (World.block_lt_of_cell? w _ hx389_2)).trans hx389_2
          replace p389 := eq_true p389
          replace q389 := eq_true q389
          have p390 : 0 ≤ (a2 : Int) := of_decide_eq_true (by first | (with_reducible assumption) | assumption)
          have q390 : a2 < (l0.length : Int) := of_decide_eq_true (by first | (with_reducible assumption) | assumption)
          obtain ⟨ad390, e390, hx390_0, hx390_1, hx390_2⟩ := at_T33 HR0.out a2 p390 q390
          have hw390_2 := hx390_2
          have hw390_1 := hx390_1
          have hw390_0 := hx390_0
          obtain rfl : ad389 = ad390 := (by injection e390)
          replace hx390_0 := (HB.out.cell (World.block_lt_of_cell? w _ hx390_0)).trans hx390_0
          replace hx390_1 := (HB.out.cell (World.block_lt_of_cell? w _ hx390_1)).trans hx390_1
          replace hx390_2 := (HB.out.cell (World.block_lt_of_cell? w _ hx390_2)).trans hx390_2
          replace p390 := eq_true p390
          replace q390 := eq_true q390
          refine start_ (n := 12) (S := fun w' => w'.cell? (ad389.add ((a1).toNat * 3)) = some (.int .i64 ((rd_T33 l0 a1).f0)) ∧ w'.cell? ⟨(ad389.add ((a1).toNat * 3)).block, (ad389.add ((a1).toNat * 3)).off + 1, none⟩ = some (.int .i64 ((rd_T33 l0 a1).f1)) ∧ w'.cell? ⟨(ad389.add ((a1).toNat * 3)).block, (ad389.add ((a1).toNat * 3)).off + 2, none⟩ = some (.int .i64 ((rd_T33 l0 a1).f2)) ∧ w'.cell? (ad389.add ((a2).toNat * 3)) = some (.int .i64 ((rd_T33 l0 a2).f0)) ∧ w'.cell? ⟨(ad389.add ((a2).toNat * 3)).block, (ad389.add ((a2).toNat * 3)).off + 1, none⟩ = some (.int .i64 ((rd_T33 l0 a2).f1)) ∧ w'.cell? ⟨(ad389.add ((a2).toNat * 3)).block, (ad389.add ((a2).toNat * 3)).off + 2, none⟩ = some (.int .i64 ((rd_T33 l0 a2).f2))) (ds := []) #[false, false, false, false, false, false, false, false, false, false, false, false] (by kernel_rfl) rfl rfl ⟨((HB.out.cell (World.block_lt_of_cell? w _ hw389_0)).trans hw389_0), ((HB.out.cell (World.block_lt_of_cell? w _ hw389_1)).trans hw389_1), ((HB.out.cell (World.block_lt_of_cell? w _ hw389_2)).trans hw389_2), ((HB.out.cell (World.block_lt_of_cell? w _ hw390_0)).trans hw390_0), ((HB.out.cell (World.block_lt_of_cell? w _ hw390_1)).trans hw390_1), ((HB.out.cell (World.block_lt_of_cell? w _ hw390_2)).trans hw390_2)⟩ (fun hHeld => ?_); refine with_tabW calcheck_why.tab1 calcheck_why.bits1 (fun HT_ HW_ => ?_)
          generalize w.drew = w9 at HB hx389_0 hx389_1 hx389_2 hx390_0 hx390_1 hx390_2 hHeld ⊢
          refine pure_ (i := 0) (N := some 9) (v := ?_) (a' := ?_) #[true, false, false, false, false, false, false, false, false, false, false, false] rfl rfl (any_of HT_.out (by kernel_rfl)) (fun _ _ _ h => h) (Or.inl ⟨by rfl, ?_⟩) ?_ ?_
          rotate_left
          · intro w'
            go_simp
            with_reducible rfl
          rotate_left
          · simp only [Act.put, List.setIfInBounds_toArray, List.set_cons_zero, List.set_cons_succ, i64_w, i32_w]
            rfl
          refine pure_ (i := 1) (N := some 10) (v := ?_) (a' := ?_) #[true, true, false, false, false, false, false, false, false, false, false, false] rfl rfl (any_of HT_.out (by kernel_rfl)) (fun _ _ _ h => h) (Or.inl ⟨by rfl, ?_⟩) ?_ ?_
          rotate_left
          · intro w'
            go_simp
            with_reducible rfl
          rotate_left
          · simp only [Act.put, List.setIfInBounds_toArray, List.set_cons_zero, List.set_cons_succ, i64_w, i32_w]
            rfl
          refine pure_ (i := 2) (N := some 11) (v := ?_) (a' := ?_) #[true, true, true, false, false, false, false, false, false, false, false, false] rfl rfl (any_of HT_.out (by kernel_rfl)) (fun _ _ _ h => h) (Or.inl ⟨by rfl, ?_⟩) ?_ ?_
          rotate_left
          · intro w'
            go_simp
            with_reducible rfl
          rotate_left
          · simp only [Act.put, List.setIfInBounds_toArray, List.set_cons_zero, List.set_cons_succ, i64_w, i32_w]
            rfl
          refine pure_ (i := 4) (N := some 13) (v := ?_) (a' := ?_) #[true, true, true, false, true, false, false, false, false, false, false, false] rfl rfl (any_of HT_.out (by kernel_rfl)) (fun _ _ _ h => h) (Or.inl ⟨by rfl, ?_⟩) ?_ ?_
          rotate_left
          · intro w'
            go_simp
            with_reducible rfl
          rotate_left
          · simp only [Act.put, List.setIfInBounds_toArray, List.set_cons_zero, List.set_cons_succ, i64_w, i32_w]
            rfl
          refine pure_ (i := 5) (N := some 14) (v := ?_) (a' := ?_) #[true, true, true, false, true, true, false, false, false, false, false, false] rfl rfl (any_of HT_.out (by kernel_rfl)) (fun _ _ _ h => h) (Or.inl ⟨by rfl, ?_⟩) ?_ ?_
          rotate_left
          · intro w'
            go_simp
            with_reducible rfl
          rotate_left
          · simp only [Act.put, List.setIfInBounds_toArray, List.set_cons_zero, List.set_cons_succ, i64_w, i32_w]
            rfl
          refine pure_ (i := 6) (N := some 15) (v := ?_) (a' := ?_) #[true, true, true, false, true, true, true, false, false, false, false, false] rfl rfl (any_of HT_.out (by kernel_rfl)) (fun _ _ _ h => h) (Or.inl ⟨by rfl, ?_⟩) ?_ ?_
          rotate_left
          · intro w'
            go_simp
            with_reducible rfl
          rotate_left
          · simp only [Act.put, List.setIfInBounds_toArray, List.set_cons_zero, List.set_cons_succ, i64_w, i32_w]
            rfl
          refine take_ (i := 3) (N := some 12) (v := ?_) (a' := ?_) #[true, true, true, true, true, true, true, false, false, false, false, false] rfl rfl (take_ofW HT_.out HW_.out (by kernel_rfl)) (fun _ _ _ h => h) (Or.inl ⟨by rfl, ?_⟩) hHeld ?_ ?_
          rotate_left
          · rintro w' ⟨s0, s1, s2, s3, s4, s5⟩
            go_simp
            with_reducible rfl
          rotate_left
          · simp only [Act.put, List.setIfInBounds_toArray, List.set_cons_zero, List.set_cons_succ, i64_w, i32_w]
            rfl
          refine take_ (i := 7) (N := some 16) (v := ?_) (a' := ?_) #[true, true, true, true, true, true, true, true, false, false, false, false] rfl rfl (take_ofW HT_.out HW_.out (by kernel_rfl)) (fun _ _ _ h => h) (Or.inl ⟨by rfl, ?_⟩) hHeld ?_ ?_
          rotate_left
          · rintro w' ⟨s0, s1, s2, s3, s4, s5⟩
            go_simp
            with_reducible rfl
          rotate_left
          · simp only [Act.put, List.setIfInBounds_toArray, List.set_cons_zero, List.set_cons_succ, i64_w, i32_w]
            rfl
          refine join_ (σ := Nat × Nat) 2 #[true, true, true, true, true, true, true, true, true, true, false, false] (fun s_ => [(7, .pointer (some ⟨s_.1, 0, none⟩)), (8, .pointer (some ⟨s_.2, 0, none⟩))]) (fun s_ w' => (w'.cell? (ad389.add ((a1).toNat * 3)) = some (.int .i64 ((rd_T33 l0 a1).f0)) ∧ w'.cell? ⟨(ad389.add ((a1).toNat * 3)).block, (ad389.add ((a1).toNat * 3)).off + 1, none⟩ = some (.int .i64 ((rd_T33 l0 a1).f1)) ∧ w'.cell? ⟨(ad389.add ((a1).toNat * 3)).block, (ad389.add ((a1).toNat * 3)).off + 2, none⟩ = some (.int .i64 ((rd_T33 l0 a1).f2)) ∧ w'.cell? (ad389.add ((a2).toNat * 3)) = some (.int .i64 ((rd_T33 l0 a2).f0)) ∧ w'.cell? ⟨(ad389.add ((a2).toNat * 3)).block, (ad389.add ((a2).toNat * 3)).off + 1, none⟩ = some (.int .i64 ((rd_T33 l0 a2).f1)) ∧ w'.cell? ⟨(ad389.add ((a2).toNat * 3)).block, (ad389.add ((a2).toNat * 3)).off + 2, none⟩ = some (.int .i64 ((rd_T33 l0 a2).f2))) ∧ (w'.heap[s_.1]? = some (.cells #[.int .i64 0, .int .i64 0, .int .i64 0] 33 (0, 0))) ∧ (w'.heap[s_.2]? = some (.cells #[.int .i64 0, .int .i64 0, .int .i64 0] 33 (0, 0))) ∧ (w.heap.size ≤ s_.1) ∧ (w.heap.size ≤ s_.1) ∧ (s_.2 ≠ s_.1) ∧ (s_.1 ≠ s_.2) ∧ (w.heap.size ≤ s_.2) ∧ (w.heap.size ≤ s_.2) ∧ (Below w.heap.size w w')) ?_ ?_
          rotate_left
          · intro hCont
            refine two_ (i := 8) (j := 9) (Ni := some 7) (Nj := some 8) #[true, true, true, true, true, true, true, true, true, false, false, false] #[true, true, true, true, true, true, true, true, false, true, false, false] rfl rfl rfl rfl (two_of HT_.out (by kernel_rfl)) (by decide) (by decide) (fun K hK => ?_) (fun K hK => ?_)
            · skip
              refine box_step ?hg (N := 7) ?hd (cs := #[.int .i64 0, .int .i64 0, .int .i64 0]) (t := 33) ?hr ?_; (case hd => rfl); (case hg => rfl); (case hr => first | (go_simp; done) | (go_simp; rfl))
              intro gb391 hg w10 hbox hb
              have n0_ := Aside0.mk (below_step (by repeat (first | (with_reducible first | exact HB.out | apply below_alloc | apply pw_below_drewN | apply below_drew1) | exact HB.out)) hb)
              have n1_ := Aside0.mk (hbox)
              have n2_ := Aside0.mk ((by rw [hg]; exact (below_size (by repeat (first | (with_reducible first | exact HB.out | apply below_alloc | apply pw_below_drewN | apply below_drew1) | exact HB.out))) : w.heap.size ≤ gb391))
              have n3_ := Aside0.mk ((by rw [hg]; exact (below_size (by repeat (first | (with_reducible first | exact HB.out | apply below_alloc | apply pw_below_drewN | apply below_drew1) | exact HB.out))) : w.heap.size ≤ gb391))
              clear HB
              have HB := n0_
              have BK391 := n1_
              have GW391 := n2_
              have GE391 := n3_
              clear n0_ n1_ n2_ n3_
              clear hb hbox hg
              refine hK.out _ _ ⟨((HB.out.cell (World.block_lt_of_cell? w _ hw389_0)).trans hw389_0), ((HB.out.cell (World.block_lt_of_cell? w _ hw389_1)).trans hw389_1), ((HB.out.cell (World.block_lt_of_cell? w _ hw389_2)).trans hw389_2), ((HB.out.cell (World.block_lt_of_cell? w _ hw390_0)).trans hw390_0), ((HB.out.cell (World.block_lt_of_cell? w _ hw390_1)).trans hw390_1), ((HB.out.cell (World.block_lt_of_cell? w _ hw390_2)).trans hw390_2)⟩ (fun hHeld => ?_)
              clear hK K
              refine norm_ (a' := ?_) ?_ ?_
              rotate_left
              · show Act.put _ (some 7) _ = _
                simp only [Act.put, List.setIfInBounds_toArray, List.set_cons_zero, List.set_cons_succ, i64_w, i32_w]
                rfl
              refine one_ (i := 9) (N := some 8) #[true, true, true, true, true, true, true, true, true, true, false, false] rfl rfl (one_of HT_.out (by kernel_rfl)) (by decide) (fun K hK => ?_)
              refine box_step ?hg (N := 8) ?hd (cs := #[.int .i64 0, .int .i64 0, .int .i64 0]) (t := 33) ?hr ?_; (case hd => rfl); (case hg => rfl); (case hr => first | (go_simp; done) | (go_simp; rfl))
              intro gb392 hg w11 hbox hb
              have n0_ := Aside0.mk (blk_below (g := gb391) (o := .cells #[.int .i64 0, .int .i64 0, .int .i64 0] 33 (0, 0)) (by (with_reducible repeat (first | refine blk_drewN ?_ _ | refine blk_drew ?_ | refine blk_alloc ?_ _)); exact BK391.out) hb)
              have n1_ := Aside0.mk (below_step (by repeat (first | (with_reducible first | exact HB.out | apply below_alloc | apply pw_below_drewN | apply below_drew1 | refine below_set ?_ GE391.out) | exact HB.out)) hb)
              have n2_ := Aside0.mk (hbox)
              have n3_ := Aside0.mk ((by rw [hg]; exact (below_size (by repeat (first | (with_reducible first | exact HB.out | apply below_alloc | apply pw_below_drewN | apply below_drew1 | refine below_set ?_ GE391.out) | exact HB.out))) : w.heap.size ≤ gb392))
              have n4_ := Aside0.mk ((by rw [hg]; exact (below_size (by repeat (first | (with_reducible first | exact HB.out | apply below_alloc | apply pw_below_drewN | apply below_drew1 | refine below_set ?_ GE391.out) | exact HB.out))) : w.heap.size ≤ gb392))
              have n5_ := Aside0.mk ((by rw [hg]; exact Nat.ne_of_lt (blk_lt (g := gb391) (o := .cells #[.int .i64 0, .int .i64 0, .int .i64 0] 33 (0, 0)) (by (with_reducible repeat (first | refine blk_drewN ?_ _ | refine blk_drew ?_ | refine blk_alloc ?_ _)); exact BK391.out)) : gb391 ≠ gb392))
              have n6_ := Aside0.mk ((by rw [hg]; exact Nat.ne_of_gt (blk_lt (g := gb391) (o := .cells #[.int .i64 0, .int .i64 0, .int .i64 0] 33 (0, 0)) (by (with_reducible repeat (first | refine blk_drewN ?_ _ | refine blk_drew ?_ | refine blk_alloc ?_ _)); exact BK391.out)) : gb392 ≠ gb391))
              clear BK391
              clear HB
              have BK391 := n0_
              have HB := n1_
              have BK392 := n2_
              have GW392 := n3_
              have GE392 := n4_
              have NB391_392 := n5_
              have NB392_391 := n6_
              clear n0_ n1_ n2_ n3_ n4_ n5_ n6_
              clear hb hbox hg
              refine hK.out _ _ ⟨((HB.out.cell (World.block_lt_of_cell? w _ hw389_0)).trans hw389_0), ((HB.out.cell (World.block_lt_of_cell? w _ hw389_1)).trans hw389_1), ((HB.out.cell (World.block_lt_of_cell? w _ hw389_2)).trans hw389_2), ((HB.out.cell (World.block_lt_of_cell? w _ hw390_0)).trans hw390_0), ((HB.out.cell (World.block_lt_of_cell? w _ hw390_1)).trans hw390_1), ((HB.out.cell (World.block_lt_of_cell? w _ hw390_2)).trans hw390_2)⟩ (fun hHeld => ?_)
              clear hK K
              refine norm_ (a' := ?_) ?_ ?_
              rotate_left
              · show Act.put _ (some 8) _ = _
                simp only [Act.put, List.setIfInBounds_toArray, List.set_cons_zero, List.set_cons_succ, i64_w, i32_w]
                rfl
              exact norm_ (by simp only [putAll, Act.put, List.setIfInBounds_toArray, List.set_cons_zero, List.set_cons_succ]) (hCont (gb391, gb392) _ ⟨hHeld, (by (with_reducible repeat (first | refine blk_drewN ?_ _ | refine blk_drew ?_ | refine blk_alloc ?_ _)); exact BK391.out), (by (with_reducible repeat (first | refine blk_drewN ?_ _ | refine blk_drew ?_ | refine blk_alloc ?_ _)); exact BK392.out), GW391.out, GE391.out, NB392_391.out, NB391_392.out, GW392.out, GE392.out, (by repeat (first | (with_reducible first | exact HB.out | apply below_alloc | apply pw_below_drewN | apply below_drew1 | refine below_set ?_ GE391.out | refine below_set ?_ GE392.out) | exact HB.out))⟩)
            · skip
              refine box_step ?hg (N := 8) ?hd (cs := #[.int .i64 0, .int .i64 0, .int .i64 0]) (t := 33) ?hr ?_; (case hd => rfl); (case hg => rfl); (case hr => first | (go_simp; done) | (go_simp; rfl))
              intro gb392 hg w10 hbox hb
              have n0_ := Aside0.mk (below_step (by repeat (first | (with_reducible first | exact HB.out | apply below_alloc | apply pw_below_drewN | apply below_drew1) | exact HB.out)) hb)
              have n1_ := Aside0.mk (hbox)
              have n2_ := Aside0.mk ((by rw [hg]; exact (below_size (by repeat (first | (with_reducible first | exact HB.out | apply below_alloc | apply pw_below_drewN | apply below_drew1) | exact HB.out))) : w.heap.size ≤ gb392))
              have n3_ := Aside0.mk ((by rw [hg]; exact (below_size (by repeat (first | (with_reducible first | exact HB.out | apply below_alloc | apply pw_below_drewN | apply below_drew1) | exact HB.out))) : w.heap.size ≤ gb392))
              clear HB
              have HB := n0_
              have BK392 := n1_
              have GW392 := n2_
              have GE392 := n3_
              clear n0_ n1_ n2_ n3_
              clear hb hbox hg
              refine hK.out _ _ ⟨((HB.out.cell (World.block_lt_of_cell? w _ hw389_0)).trans hw389_0), ((HB.out.cell (World.block_lt_of_cell? w _ hw389_1)).trans hw389_1), ((HB.out.cell (World.block_lt_of_cell? w _ hw389_2)).trans hw389_2), ((HB.out.cell (World.block_lt_of_cell? w _ hw390_0)).trans hw390_0), ((HB.out.cell (World.block_lt_of_cell? w _ hw390_1)).trans hw390_1), ((HB.out.cell (World.block_lt_of_cell? w _ hw390_2)).trans hw390_2)⟩ (fun hHeld => ?_)
              clear hK K
              refine norm_ (a' := ?_) ?_ ?_
              rotate_left
              · show Act.put _ (some 8) _ = _
                simp only [Act.put, List.setIfInBounds_toArray, List.set_cons_zero, List.set_cons_succ, i64_w, i32_w]
                rfl
              refine one_ (i := 8) (N := some 7) #[true, true, true, true, true, true, true, true, true, true, false, false] rfl rfl (one_of HT_.out (by kernel_rfl)) (by decide) (fun K hK => ?_)
              refine box_step ?hg (N := 7) ?hd (cs := #[.int .i64 0, .int .i64 0, .int .i64 0]) (t := 33) ?hr ?_; (case hd => rfl); (case hg => rfl); (case hr => first | (go_simp; done) | (go_simp; rfl))
              intro gb391 hg w11 hbox hb
              have n0_ := Aside0.mk (blk_below (g := gb392) (o := .cells #[.int .i64 0, .int .i64 0, .int .i64 0] 33 (0, 0)) (by (with_reducible repeat (first | refine blk_drewN ?_ _ | refine blk_drew ?_ | refine blk_alloc ?_ _)); exact BK392.out) hb)
              have n1_ := Aside0.mk (below_step (by repeat (first | (with_reducible first | exact HB.out | apply below_alloc | apply pw_below_drewN | apply below_drew1 | refine below_set ?_ GE392.out) | exact HB.out)) hb)
              have n2_ := Aside0.mk (hbox)
              have n3_ := Aside0.mk ((by rw [hg]; exact (below_size (by repeat (first | (with_reducible first | exact HB.out | apply below_alloc | apply pw_below_drewN | apply below_drew1 | refine below_set ?_ GE392.out) | exact HB.out))) : w.heap.size ≤ gb391))
              have n4_ := Aside0.mk ((by rw [hg]; exact (below_size (by repeat (first | (with_reducible first | exact HB.out | apply below_alloc | apply pw_below_drewN | apply below_drew1 | refine below_set ?_ GE392.out) | exact HB.out))) : w.heap.size ≤ gb391))
              have n5_ := Aside0.mk ((by rw [hg]; exact Nat.ne_of_lt (blk_lt (g := gb392) (o := .cells #[.int .i64 0, .int .i64 0, .int .i64 0] 33 (0, 0)) (by (with_reducible repeat (first | refine blk_drewN ?_ _ | refine blk_drew ?_ | refine blk_alloc ?_ _)); exact BK392.out)) : gb392 ≠ gb391))
              have n6_ := Aside0.mk ((by rw [hg]; exact Nat.ne_of_gt (blk_lt (g := gb392) (o := .cells #[.int .i64 0, .int .i64 0, .int .i64 0] 33 (0, 0)) (by (with_reducible repeat (first | refine blk_drewN ?_ _ | refine blk_drew ?_ | refine blk_alloc ?_ _)); exact BK392.out)) : gb391 ≠ gb392))
              clear BK392
              clear HB
              have BK392 := n0_
              have HB := n1_
              have BK391 := n2_
              have GW391 := n3_
              have GE391 := n4_
              have NB392_391 := n5_
              have NB391_392 := n6_
              clear n0_ n1_ n2_ n3_ n4_ n5_ n6_
              clear hb hbox hg
              refine hK.out _ _ ⟨((HB.out.cell (World.block_lt_of_cell? w _ hw389_0)).trans hw389_0), ((HB.out.cell (World.block_lt_of_cell? w _ hw389_1)).trans hw389_1), ((HB.out.cell (World.block_lt_of_cell? w _ hw389_2)).trans hw389_2), ((HB.out.cell (World.block_lt_of_cell? w _ hw390_0)).trans hw390_0), ((HB.out.cell (World.block_lt_of_cell? w _ hw390_1)).trans hw390_1), ((HB.out.cell (World.block_lt_of_cell? w _ hw390_2)).trans hw390_2)⟩ (fun hHeld => ?_)
              clear hK K
              refine norm_ (a' := ?_) ?_ ?_
              rotate_left
              · show Act.put _ (some 7) _ = _
                simp only [Act.put, List.setIfInBounds_toArray, List.set_cons_zero, List.set_cons_succ, i64_w, i32_w]
                rfl
              exact norm_ (by simp only [putAll, Act.put, List.setIfInBounds_toArray, List.set_cons_zero, List.set_cons_succ]) (hCont (gb391, gb392) _ ⟨hHeld, (by (with_reducible repeat (first | refine blk_drewN ?_ _ | refine blk_drew ?_ | refine blk_alloc ?_ _)); exact BK391.out), (by (with_reducible repeat (first | refine blk_drewN ?_ _ | refine blk_drew ?_ | refine blk_alloc ?_ _)); exact BK392.out), GW391.out, GE391.out, NB392_391.out, NB391_392.out, GW392.out, GE392.out, (by repeat (first | (with_reducible first | exact HB.out | apply below_alloc | apply pw_below_drewN | apply below_drew1 | refine below_set ?_ GE392.out | refine below_set ?_ GE391.out) | exact HB.out))⟩)
          rintro ⟨gb391, gb392⟩ w12 ⟨hS_, h0_, h1_, h2_, h3_, h4_, h5_, h6_, h7_, h8_⟩
          have n0_ : Aside0 (w12.heap[gb391]? = some (.cells #[.int .i64 0, .int .i64 0, .int .i64 0] 33 (0, 0))) := ⟨h0_⟩
          have n1_ : Aside0 (w12.heap[gb392]? = some (.cells #[.int .i64 0, .int .i64 0, .int .i64 0] 33 (0, 0))) := ⟨h1_⟩
          have n2_ : Aside0 (w.heap.size ≤ gb391) := ⟨h2_⟩
          have n3_ : Aside0 (w.heap.size ≤ gb391) := ⟨h3_⟩
          have n4_ : Aside0 (gb392 ≠ gb391) := ⟨h4_⟩
          have n5_ : Aside0 (gb391 ≠ gb392) := ⟨h5_⟩
          have n6_ : Aside0 (w.heap.size ≤ gb392) := ⟨h6_⟩
          have n7_ : Aside0 (w.heap.size ≤ gb392) := ⟨h7_⟩
          have n8_ : Aside0 (Below w.heap.size w w12) := ⟨h8_⟩
          clear HB
          clear h0_ h1_ h2_ h3_ h4_ h5_ h6_ h7_ h8_
          have BK391 := n0_
          have BK392 := n1_
          have GW391 := n2_
          have GE391 := n3_
          have NB392_391 := n4_
          have NB391_392 := n5_
          have GW392 := n6_
          have GE392 := n7_
          have HB := n8_
          clear n0_ n1_ n2_ n3_ n4_ n5_ n6_ n7_ n8_
          have hHeld : w12.cell? (ad389.add ((a1).toNat * 3)) = some (.int .i64 ((rd_T33 l0 a1).f0)) ∧ w12.cell? ⟨(ad389.add ((a1).toNat * 3)).block, (ad389.add ((a1).toNat * 3)).off + 1, none⟩ = some (.int .i64 ((rd_T33 l0 a1).f1)) ∧ w12.cell? ⟨(ad389.add ((a1).toNat * 3)).block, (ad389.add ((a1).toNat * 3)).off + 2, none⟩ = some (.int .i64 ((rd_T33 l0 a1).f2)) ∧ w12.cell? (ad389.add ((a2).toNat * 3)) = some (.int .i64 ((rd_T33 l0 a2).f0)) ∧ w12.cell? ⟨(ad389.add ((a2).toNat * 3)).block, (ad389.add ((a2).toNat * 3)).off + 1, none⟩ = some (.int .i64 ((rd_T33 l0 a2).f1)) ∧ w12.cell? ⟨(ad389.add ((a2).toNat * 3)).block, (ad389.add ((a2).toNat * 3)).off + 2, none⟩ = some (.int .i64 ((rd_T33 l0 a2).f2)) := hS_
          refine norm_ (a' := ?_) ?_ ?_
          rotate_left
          · simp only [putAll, Act.put, List.setIfInBounds_toArray, List.set_cons_zero, List.set_cons_succ]
            rfl
          refine one_ (i := 10) (N := none) #[true, true, true, true, true, true, true, true, true, true, true, false] rfl rfl (one_of HT_.out (by kernel_rfl)) (by decide) (fun K hK => ?_)
          have hs13 : w12.cell? ⟨gb391, 0, none⟩ = some (.int .i64 0) := (blk_cell BK391.out 0).trans rfl
          have hfs13 := blk_frozen BK391.out 0
          have hns13_1 := NB392_391.out
          have hms13_1 := NB391_392.out
          have hs14 : w12.cell? ⟨gb391, 1, none⟩ = some (.int .i64 0) := (blk_cell BK391.out 1).trans rfl
          have hfs14 := blk_frozen BK391.out 1
          have hns14_1 := NB392_391.out
          have hms14_1 := NB391_392.out
          have hs15 : w12.cell? ⟨gb391, 2, none⟩ = some (.int .i64 0) := (blk_cell BK391.out 2).trans rfl
          have hfs15 := blk_frozen BK391.out 2
          have hns15_1 := NB392_391.out
          have hms15_1 := NB391_392.out
          refine skip_ (w1 := ?_) (by rfl) rfl ?_ ?_
          rotate_left
          · go_simp
            rfl
          refine hK.out _ _ ⟨((cell_far (p := ⟨gb391, _, none⟩) (by first | exact Nat.ne_of_lt (Nat.lt_of_lt_of_le (by have := World.block_lt_of_cell? _ _ hw389_0; first | rwa [add_block] at this | exact this) GW391.out) | (rw [add_block]; exact Nat.ne_of_lt (Nat.lt_of_lt_of_le (by have := World.block_lt_of_cell? _ _ hw389_0; first | rwa [add_block] at this | exact this) GW391.out)) | (show (Addr.add _ _).block ≠ _; rw [add_block]; exact Nat.ne_of_lt (Nat.lt_of_lt_of_le (by have := World.block_lt_of_cell? _ _ hw389_0; first | rwa [add_block] at this | exact this) GW391.out)) | (dsimp only; exact Nat.ne_of_lt (Nat.lt_of_lt_of_le (by have := World.block_lt_of_cell? _ _ hw389_0; first | rwa [add_block] at this | exact this) GW391.out))) _).trans (((cell_far (p := ⟨gb391, _, none⟩) (by first | exact Nat.ne_of_lt (Nat.lt_of_lt_of_le (by have := World.block_lt_of_cell? _ _ hw389_0; first | rwa [add_block] at this | exact this) GW391.out) | (rw [add_block]; exact Nat.ne_of_lt (Nat.lt_of_lt_of_le (by have := World.block_lt_of_cell? _ _ hw389_0; first | rwa [add_block] at this | exact this) GW391.out)) | (show (Addr.add _ _).block ≠ _; rw [add_block]; exact Nat.ne_of_lt (Nat.lt_of_lt_of_le (by have := World.block_lt_of_cell? _ _ hw389_0; first | rwa [add_block] at this | exact this) GW391.out)) | (dsimp only; exact Nat.ne_of_lt (Nat.lt_of_lt_of_le (by have := World.block_lt_of_cell? _ _ hw389_0; first | rwa [add_block] at this | exact this) GW391.out))) _).trans (((cell_far (p := ⟨gb391, _, none⟩) (by first | exact Nat.ne_of_lt (Nat.lt_of_lt_of_le (by have := World.block_lt_of_cell? _ _ hw389_0; first | rwa [add_block] at this | exact this) GW391.out) | (rw [add_block]; exact Nat.ne_of_lt (Nat.lt_of_lt_of_le (by have := World.block_lt_of_cell? _ _ hw389_0; first | rwa [add_block] at this | exact this) GW391.out)) | (show (Addr.add _ _).block ≠ _; rw [add_block]; exact Nat.ne_of_lt (Nat.lt_of_lt_of_le (by have := World.block_lt_of_cell? _ _ hw389_0; first | rwa [add_block] at this | exact this) GW391.out)) | (dsimp only; exact Nat.ne_of_lt (Nat.lt_of_lt_of_le (by have := World.block_lt_of_cell? _ _ hw389_0; first | rwa [add_block] at this | exact this) GW391.out))) _).trans (hHeld.1)))))), ((cell_far (p := ⟨gb391, _, none⟩) (by first | exact Nat.ne_of_lt (Nat.lt_of_lt_of_le (by have := World.block_lt_of_cell? _ _ hw389_1; first | rwa [add_block] at this | exact this) GW391.out) | (rw [add_block]; exact Nat.ne_of_lt (Nat.lt_of_lt_of_le (by have := World.block_lt_of_cell? _ _ hw389_1; first | rwa [add_block] at this | exact this) GW391.out)) | (show (Addr.add _ _).block ≠ _; rw [add_block]; exact Nat.ne_of_lt (Nat.lt_of_lt_of_le (by have := World.block_lt_of_cell? _ _ hw389_1; first | rwa [add_block] at this | exact this) GW391.out)) | (dsimp only; exact Nat.ne_of_lt (Nat.lt_of_lt_of_le (by have := World.block_lt_of_cell? _ _ hw389_1; first | rwa [add_block] at this | exact this) GW391.out))) _).trans (((cell_far (p := ⟨gb391, _, none⟩) (by first | exact Nat.ne_of_lt (Nat.lt_of_lt_of_le (by have := World.block_lt_of_cell? _ _ hw389_1; first | rwa [add_block] at this | exact this) GW391.out) | (rw [add_block]; exact Nat.ne_of_lt (Nat.lt_of_lt_of_le (by have := World.block_lt_of_cell? _ _ hw389_1; first | rwa [add_block] at this | exact this) GW391.out)) | (show (Addr.add _ _).block ≠ _; rw [add_block]; exact Nat.ne_of_lt (Nat.lt_of_lt_of_le (by have := World.block_lt_of_cell? _ _ hw389_1; first | rwa [add_block] at this | exact this) GW391.out)) | (dsimp only; exact Nat.ne_of_lt (Nat.lt_of_lt_of_le (by have := World.block_lt_of_cell? _ _ hw389_1; first | rwa [add_block] at this | exact this) GW391.out))) _).trans (((cell_far (p := ⟨gb391, _, none⟩) (by first | exact Nat.ne_of_lt (Nat.lt_of_lt_of_le (by have := World.block_lt_of_cell? _ _ hw389_1; first | rwa [add_block] at this | exact this) GW391.out) | (rw [add_block]; exact Nat.ne_of_lt (Nat.lt_of_lt_of_le (by have := World.block_lt_of_cell? _ _ hw389_1; first | rwa [add_block] at this | exact this) GW391.out)) | (show (Addr.add _ _).block ≠ _; rw [add_block]; exact Nat.ne_of_lt (Nat.lt_of_lt_of_le (by have := World.block_lt_of_cell? _ _ hw389_1; first | rwa [add_block] at this | exact this) GW391.out)) | (dsimp only; exact Nat.ne_of_lt (Nat.lt_of_lt_of_le (by have := World.block_lt_of_cell? _ _ hw389_1; first | rwa [add_block] at this | exact this) GW391.out))) _).trans (hHeld.2.1)))))), ((cell_far (p := ⟨gb391, _, none⟩) (by first | exact Nat.ne_of_lt (Nat.lt_of_lt_of_le (by have := World.block_lt_of_cell? _ _ hw389_2; first | rwa [add_block] at this | exact this) GW391.out) | (rw [add_block]; exact Nat.ne_of_lt (Nat.lt_of_lt_of_le (by have := World.block_lt_of_cell? _ _ hw389_2; first | rwa [add_block] at this | exact this) GW391.out)) | (show (Addr.add _ _).block ≠ _; rw [add_block]; exact Nat.ne_of_lt (Nat.lt_of_lt_of_le (by have := World.block_lt_of_cell? _ _ hw389_2; first | rwa [add_block] at this | exact this) GW391.out)) | (dsimp only; exact Nat.ne_of_lt (Nat.lt_of_lt_of_le (by have := World.block_lt_of_cell? _ _ hw389_2; first | rwa [add_block] at this | exact this) GW391.out))) _).trans (((cell_far (p := ⟨gb391, _, none⟩) (by first | exact Nat.ne_of_lt (Nat.lt_of_lt_of_le (by have := World.block_lt_of_cell? _ _ hw389_2; first | rwa [add_block] at this | exact this) GW391.out) | (rw [add_block]; exact Nat.ne_of_lt (Nat.lt_of_lt_of_le (by have := World.block_lt_of_cell? _ _ hw389_2; first | rwa [add_block] at this | exact this) GW391.out)) | (show (Addr.add _ _).block ≠ _; rw [add_block]; exact Nat.ne_of_lt (Nat.lt_of_lt_of_le (by have := World.block_lt_of_cell? _ _ hw389_2; first | rwa [add_block] at this | exact this) GW391.out)) | (dsimp only; exact Nat.ne_of_lt (Nat.lt_of_lt_of_le (by have := World.block_lt_of_cell? _ _ hw389_2; first | rwa [add_block] at this | exact this) GW391.out))) _).trans (((cell_far (p := ⟨gb391, _, none⟩) (by first | exact Nat.ne_of_lt (Nat.lt_of_lt_of_le (by have := World.block_lt_of_cell? _ _ hw389_2; first | rwa [add_block] at this | exact this) GW391.out) | (rw [add_block]; exact Nat.ne_of_lt (Nat.lt_of_lt_of_le (by have := World.block_lt_of_cell? _ _ hw389_2; first | rwa [add_block] at this | exact this) GW391.out)) | (show (Addr.add _ _).block ≠ _; rw [add_block]; exact Nat.ne_of_lt (Nat.lt_of_lt_of_le (by have := World.block_lt_of_cell? _ _ hw389_2; first | rwa [add_block] at this | exact this) GW391.out)) | (dsimp only; exact Nat.ne_of_lt (Nat.lt_of_lt_of_le (by have := World.block_lt_of_cell? _ _ hw389_2; first | rwa [add_block] at this | exact this) GW391.out))) _).trans (hHeld.2.2.1)))))), ((cell_far (p := ⟨gb391, _, none⟩) (by first | exact Nat.ne_of_lt (Nat.lt_of_lt_of_le (by have := World.block_lt_of_cell? _ _ hw390_0; first | rwa [add_block] at this | exact this) GW391.out) | (rw [add_block]; exact Nat.ne_of_lt (Nat.lt_of_lt_of_le (by have := World.block_lt_of_cell? _ _ hw390_0; first | rwa [add_block] at this | exact this) GW391.out)) | (show (Addr.add _ _).block ≠ _; rw [add_block]; exact Nat.ne_of_lt (Nat.lt_of_lt_of_le (by have := World.block_lt_of_cell? _ _ hw390_0; first | rwa [add_block] at this | exact this) GW391.out)) | (dsimp only; exact Nat.ne_of_lt (Nat.lt_of_lt_of_le (by have := World.block_lt_of_cell? _ _ hw390_0; first | rwa [add_block] at this | exact this) GW391.out))) _).trans (((cell_far (p := ⟨gb391, _, none⟩) (by first | exact Nat.ne_of_lt (Nat.lt_of_lt_of_le (by have := World.block_lt_of_cell? _ _ hw390_0; first | rwa [add_block] at this | exact this) GW391.out) | (rw [add_block]; exact Nat.ne_of_lt (Nat.lt_of_lt_of_le (by have := World.block_lt_of_cell? _ _ hw390_0; first | rwa [add_block] at this | exact this) GW391.out)) | (show (Addr.add _ _).block ≠ _; rw [add_block]; exact Nat.ne_of_lt (Nat.lt_of_lt_of_le (by have := World.block_lt_of_cell? _ _ hw390_0; first | rwa [add_block] at this | exact this) GW391.out)) | (dsimp only; exact Nat.ne_of_lt (Nat.lt_of_lt_of_le (by have := World.block_lt_of_cell? _ _ hw390_0; first | rwa [add_block] at this | exact this) GW391.out))) _).trans (((cell_far (p := ⟨gb391, _, none⟩) (by first | exact Nat.ne_of_lt (Nat.lt_of_lt_of_le (by have := World.block_lt_of_cell? _ _ hw390_0; first | rwa [add_block] at this | exact this) GW391.out) | (rw [add_block]; exact Nat.ne_of_lt (Nat.lt_of_lt_of_le (by have := World.block_lt_of_cell? _ _ hw390_0; first | rwa [add_block] at this | exact this) GW391.out)) | (show (Addr.add _ _).block ≠ _; rw [add_block]; exact Nat.ne_of_lt (Nat.lt_of_lt_of_le (by have := World.block_lt_of_cell? _ _ hw390_0; first | rwa [add_block] at this | exact this) GW391.out)) | (dsimp only; exact Nat.ne_of_lt (Nat.lt_of_lt_of_le (by have := World.block_lt_of_cell? _ _ hw390_0; first | rwa [add_block] at this | exact this) GW391.out))) _).trans (hHeld.2.2.2.1)))))), ((cell_far (p := ⟨gb391, _, none⟩) (by first | exact Nat.ne_of_lt (Nat.lt_of_lt_of_le (by have := World.block_lt_of_cell? _ _ hw390_1; first | rwa [add_block] at this | exact this) GW391.out) | (rw [add_block]; exact Nat.ne_of_lt (Nat.lt_of_lt_of_le (by have := World.block_lt_of_cell? _ _ hw390_1; first | rwa [add_block] at this | exact this) GW391.out)) | (show (Addr.add _ _).block ≠ _; rw [add_block]; exact Nat.ne_of_lt (Nat.lt_of_lt_of_le (by have := World.block_lt_of_cell? _ _ hw390_1; first | rwa [add_block] at this | exact this) GW391.out)) | (dsimp only; exact Nat.ne_of_lt (Nat.lt_of_lt_of_le (by have := World.block_lt_of_cell? _ _ hw390_1; first | rwa [add_block] at this | exact this) GW391.out))) _).trans (((cell_far (p := ⟨gb391, _, none⟩) (by first | exact Nat.ne_of_lt (Nat.lt_of_lt_of_le (by have := World.block_lt_of_cell? _ _ hw390_1; first | rwa [add_block] at this | exact this) GW391.out) | (rw [add_block]; exact Nat.ne_of_lt (Nat.lt_of_lt_of_le (by have := World.block_lt_of_cell? _ _ hw390_1; first | rwa [add_block] at this | exact this) GW391.out)) | (show (Addr.add _ _).block ≠ _; rw [add_block]; exact Nat.ne_of_lt (Nat.lt_of_lt_of_le (by have := World.block_lt_of_cell? _ _ hw390_1; first | rwa [add_block] at this | exact this) GW391.out)) | (dsimp only; exact Nat.ne_of_lt (Nat.lt_of_lt_of_le (by have := World.block_lt_of_cell? _ _ hw390_1; first | rwa [add_block] at this | exact this) GW391.out))) _).trans (((cell_far (p := ⟨gb391, _, none⟩) (by first | exact Nat.ne_of_lt (Nat.lt_of_lt_of_le (by have := World.block_lt_of_cell? _ _ hw390_1; first | rwa [add_block] at this | exact this) GW391.out) | (rw [add_block]; exact Nat.ne_of_lt (Nat.lt_of_lt_of_le (by have := World.block_lt_of_cell? _ _ hw390_1; first | rwa [add_block] at this | exact this) GW391.out)) | (show (Addr.add _ _).block ≠ _; rw [add_block]; exact Nat.ne_of_lt (Nat.lt_of_lt_of_le (by have := World.block_lt_of_cell? _ _ hw390_1; first | rwa [add_block] at this | exact this) GW391.out)) | (dsimp only; exact Nat.ne_of_lt (Nat.lt_of_lt_of_le (by have := World.block_lt_of_cell? _ _ hw390_1; first | rwa [add_block] at this | exact this) GW391.out))) _).trans (hHeld.2.2.2.2.1)))))), ((cell_far (p := ⟨gb391, _, none⟩) (by first | exact Nat.ne_of_lt (Nat.lt_of_lt_of_le (by have := World.block_lt_of_cell? _ _ hw390_2; first | rwa [add_block] at this | exact this) GW391.out) | (rw [add_block]; exact Nat.ne_of_lt (Nat.lt_of_lt_of_le (by have := World.block_lt_of_cell? _ _ hw390_2; first | rwa [add_block] at this | exact this) GW391.out)) | (show (Addr.add _ _).block ≠ _; rw [add_block]; exact Nat.ne_of_lt (Nat.lt_of_lt_of_le (by have := World.block_lt_of_cell? _ _ hw390_2; first | rwa [add_block] at this | exact this) GW391.out)) | (dsimp only; exact Nat.ne_of_lt (Nat.lt_of_lt_of_le (by have := World.block_lt_of_cell? _ _ hw390_2; first | rwa [add_block] at this | exact this) GW391.out))) _).trans (((cell_far (p := ⟨gb391, _, none⟩) (by first | exact Nat.ne_of_lt (Nat.lt_of_lt_of_le (by have := World.block_lt_of_cell? _ _ hw390_2; first | rwa [add_block] at this | exact this) GW391.out) | (rw [add_block]; exact Nat.ne_of_lt (Nat.lt_of_lt_of_le (by have := World.block_lt_of_cell? _ _ hw390_2; first | rwa [add_block] at this | exact this) GW391.out)) | (show (Addr.add _ _).block ≠ _; rw [add_block]; exact Nat.ne_of_lt (Nat.lt_of_lt_of_le (by have := World.block_lt_of_cell? _ _ hw390_2; first | rwa [add_block] at this | exact this) GW391.out)) | (dsimp only; exact Nat.ne_of_lt (Nat.lt_of_lt_of_le (by have := World.block_lt_of_cell? _ _ hw390_2; first | rwa [add_block] at this | exact this) GW391.out))) _).trans (((cell_far (p := ⟨gb391, _, none⟩) (by first | exact Nat.ne_of_lt (Nat.lt_of_lt_of_le (by have := World.block_lt_of_cell? _ _ hw390_2; first | rwa [add_block] at this | exact this) GW391.out) | (rw [add_block]; exact Nat.ne_of_lt (Nat.lt_of_lt_of_le (by have := World.block_lt_of_cell? _ _ hw390_2; first | rwa [add_block] at this | exact this) GW391.out)) | (show (Addr.add _ _).block ≠ _; rw [add_block]; exact Nat.ne_of_lt (Nat.lt_of_lt_of_le (by have := World.block_lt_of_cell? _ _ hw390_2; first | rwa [add_block] at this | exact this) GW391.out)) | (dsimp only; exact Nat.ne_of_lt (Nat.lt_of_lt_of_le (by have := World.block_lt_of_cell? _ _ hw390_2; first | rwa [add_block] at this | exact this) GW391.out))) _).trans (hHeld.2.2.2.2.2))))))⟩ (fun hHeld => ?_)
          clear hK K
          refine one_ (i := 11) (N := none) #[true, true, true, true, true, true, true, true, true, true, true, true] rfl rfl (one_of HT_.out (by kernel_rfl)) (by decide) (fun K hK => ?_)
          have hs16 : w12.cell? ⟨gb392, 0, none⟩ = some (.int .i64 0) := (blk_cell BK392.out 0).trans rfl
          have hfs16 := blk_frozen BK392.out 0
          have hns16_0 := NB391_392.out
          have hms16_0 := NB392_391.out
          have hs17 : w12.cell? ⟨gb392, 1, none⟩ = some (.int .i64 0) := (blk_cell BK392.out 1).trans rfl
          have hfs17 := blk_frozen BK392.out 1
          have hns17_0 := NB391_392.out
          have hms17_0 := NB392_391.out
          have hs18 : w12.cell? ⟨gb392, 2, none⟩ = some (.int .i64 0) := (blk_cell BK392.out 2).trans rfl
          have hfs18 := blk_frozen BK392.out 2
          have hns18_0 := NB391_392.out
          have hms18_0 := NB392_391.out
          refine skip_ (w1 := ?_) (by rfl) rfl ?_ ?_
          rotate_left
          · go_simp
            rfl
          refine hK.out _ _ ⟨((cell_far (p := ⟨gb392, _, none⟩) (by first | exact Nat.ne_of_lt (Nat.lt_of_lt_of_le (by have := World.block_lt_of_cell? _ _ hw389_0; first | rwa [add_block] at this | exact this) GW392.out) | (rw [add_block]; exact Nat.ne_of_lt (Nat.lt_of_lt_of_le (by have := World.block_lt_of_cell? _ _ hw389_0; first | rwa [add_block] at this | exact this) GW392.out)) | (show (Addr.add _ _).block ≠ _; rw [add_block]; exact Nat.ne_of_lt (Nat.lt_of_lt_of_le (by have := World.block_lt_of_cell? _ _ hw389_0; first | rwa [add_block] at this | exact this) GW392.out)) | (dsimp only; exact Nat.ne_of_lt (Nat.lt_of_lt_of_le (by have := World.block_lt_of_cell? _ _ hw389_0; first | rwa [add_block] at this | exact this) GW392.out))) _).trans (((cell_far (p := ⟨gb392, _, none⟩) (by first | exact Nat.ne_of_lt (Nat.lt_of_lt_of_le (by have := World.block_lt_of_cell? _ _ hw389_0; first | rwa [add_block] at this | exact this) GW392.out) | (rw [add_block]; exact Nat.ne_of_lt (Nat.lt_of_lt_of_le (by have := World.block_lt_of_cell? _ _ hw389_0; first | rwa [add_block] at this | exact this) GW392.out)) | (show (Addr.add _ _).block ≠ _; rw [add_block]; exact Nat.ne_of_lt (Nat.lt_of_lt_of_le (by have := World.block_lt_of_cell? _ _ hw389_0; first | rwa [add_block] at this | exact this) GW392.out)) | (dsimp only; exact Nat.ne_of_lt (Nat.lt_of_lt_of_le (by have := World.block_lt_of_cell? _ _ hw389_0; first | rwa [add_block] at this | exact this) GW392.out))) _).trans (((cell_far (p := ⟨gb392, _, none⟩) (by first | exact Nat.ne_of_lt (Nat.lt_of_lt_of_le (by have := World.block_lt_of_cell? _ _ hw389_0; first | rwa [add_block] at this | exact this) GW392.out) | (rw [add_block]; exact Nat.ne_of_lt (Nat.lt_of_lt_of_le (by have := World.block_lt_of_cell? _ _ hw389_0; first | rwa [add_block] at this | exact this) GW392.out)) | (show (Addr.add _ _).block ≠ _; rw [add_block]; exact Nat.ne_of_lt (Nat.lt_of_lt_of_le (by have := World.block_lt_of_cell? _ _ hw389_0; first | rwa [add_block] at this | exact this) GW392.out)) | (dsimp only; exact Nat.ne_of_lt (Nat.lt_of_lt_of_le (by have := World.block_lt_of_cell? _ _ hw389_0; first | rwa [add_block] at this | exact this) GW392.out))) _).trans (hHeld.1)))))), ((cell_far (p := ⟨gb392, _, none⟩) (by first | exact Nat.ne_of_lt (Nat.lt_of_lt_of_le (by have := World.block_lt_of_cell? _ _ hw389_1; first | rwa [add_block] at this | exact this) GW392.out) | (rw [add_block]; exact Nat.ne_of_lt (Nat.lt_of_lt_of_le (by have := World.block_lt_of_cell? _ _ hw389_1; first | rwa [add_block] at this | exact this) GW392.out)) | (show (Addr.add _ _).block ≠ _; rw [add_block]; exact Nat.ne_of_lt (Nat.lt_of_lt_of_le (by have := World.block_lt_of_cell? _ _ hw389_1; first | rwa [add_block] at this | exact this) GW392.out)) | (dsimp only; exact Nat.ne_of_lt (Nat.lt_of_lt_of_le (by have := World.block_lt_of_cell? _ _ hw389_1; first | rwa [add_block] at this | exact this) GW392.out))) _).trans (((cell_far (p := ⟨gb392, _, none⟩) (by first | exact Nat.ne_of_lt (Nat.lt_of_lt_of_le (by have := World.block_lt_of_cell? _ _ hw389_1; first | rwa [add_block] at this | exact this) GW392.out) | (rw [add_block]; exact Nat.ne_of_lt (Nat.lt_of_lt_of_le (by have := World.block_lt_of_cell? _ _ hw389_1; first | rwa [add_block] at this | exact this) GW392.out)) | (show (Addr.add _ _).block ≠ _; rw [add_block]; exact Nat.ne_of_lt (Nat.lt_of_lt_of_le (by have := World.block_lt_of_cell? _ _ hw389_1; first | rwa [add_block] at this | exact this) GW392.out)) | (dsimp only; exact Nat.ne_of_lt (Nat.lt_of_lt_of_le (by have := World.block_lt_of_cell? _ _ hw389_1; first | rwa [add_block] at this | exact this) GW392.out))) _).trans (((cell_far (p := ⟨gb392, _, none⟩) (by first | exact Nat.ne_of_lt (Nat.lt_of_lt_of_le (by have := World.block_lt_of_cell? _ _ hw389_1; first | rwa [add_block] at this | exact this) GW392.out) | (rw [add_block]; exact Nat.ne_of_lt (Nat.lt_of_lt_of_le (by have := World.block_lt_of_cell? _ _ hw389_1; first | rwa [add_block] at this | exact this) GW392.out)) | (show (Addr.add _ _).block ≠ _; rw [add_block]; exact Nat.ne_of_lt (Nat.lt_of_lt_of_le (by have := World.block_lt_of_cell? _ _ hw389_1; first | rwa [add_block] at this | exact this) GW392.out)) | (dsimp only; exact Nat.ne_of_lt (Nat.lt_of_lt_of_le (by have := World.block_lt_of_cell? _ _ hw389_1; first | rwa [add_block] at this | exact this) GW392.out))) _).trans (hHeld.2.1)))))), ((cell_far (p := ⟨gb392, _, none⟩) (by first | exact Nat.ne_of_lt (Nat.lt_of_lt_of_le (by have := World.block_lt_of_cell? _ _ hw389_2; first | rwa [add_block] at this | exact this) GW392.out) | (rw [add_block]; exact Nat.ne_of_lt (Nat.lt_of_lt_of_le (by have := World.block_lt_of_cell? _ _ hw389_2; first | rwa [add_block] at this | exact this) GW392.out)) | (show (Addr.add _ _).block ≠ _; rw [add_block]; exact Nat.ne_of_lt (Nat.lt_of_lt_of_le (by have := World.block_lt_of_cell? _ _ hw389_2; first | rwa [add_block] at this | exact this) GW392.out)) | (dsimp only; exact Nat.ne_of_lt (Nat.lt_of_lt_of_le (by have := World.block_lt_of_cell? _ _ hw389_2; first | rwa [add_block] at this | exact this) GW392.out))) _).trans (((cell_far (p := ⟨gb392, _, none⟩) (by first | exact Nat.ne_of_lt (Nat.lt_of_lt_of_le (by have := World.block_lt_of_cell? _ _ hw389_2; first | rwa [add_block] at this | exact this) GW392.out) | (rw [add_block]; exact Nat.ne_of_lt (Nat.lt_of_lt_of_le (by have := World.block_lt_of_cell? _ _ hw389_2; first | rwa [add_block] at this | exact this) GW392.out)) | (show (Addr.add _ _).block ≠ _; rw [add_block]; exact Nat.ne_of_lt (Nat.lt_of_lt_of_le (by have := World.block_lt_of_cell? _ _ hw389_2; first | rwa [add_block] at this | exact this) GW392.out)) | (dsimp only; exact Nat.ne_of_lt (Nat.lt_of_lt_of_le (by have := World.block_lt_of_cell? _ _ hw389_2; first | rwa [add_block] at this | exact this) GW392.out))) _).trans (((cell_far (p := ⟨gb392, _, none⟩) (by first | exact Nat.ne_of_lt (Nat.lt_of_lt_of_le (by have := World.block_lt_of_cell? _ _ hw389_2; first | rwa [add_block] at this | exact this) GW392.out) | (rw [add_block]; exact Nat.ne_of_lt (Nat.lt_of_lt_of_le (by have := World.block_lt_of_cell? _ _ hw389_2; first | rwa [add_block] at this | exact this) GW392.out)) | (show (Addr.add _ _).block ≠ _; rw [add_block]; exact Nat.ne_of_lt (Nat.lt_of_lt_of_le (by have := World.block_lt_of_cell? _ _ hw389_2; first | rwa [add_block] at this | exact this) GW392.out)) | (dsimp only; exact Nat.ne_of_lt (Nat.lt_of_lt_of_le (by have := World.block_lt_of_cell? _ _ hw389_2; first | rwa [add_block] at this | exact this) GW392.out))) _).trans (hHeld.2.2.1)))))), ((cell_far (p := ⟨gb392, _, none⟩) (by first | exact Nat.ne_of_lt (Nat.lt_of_lt_of_le (by have := World.block_lt_of_cell? _ _ hw390_0; first | rwa [add_block] at this | exact this) GW392.out) | (rw [add_block]; exact Nat.ne_of_lt (Nat.lt_of_lt_of_le (by have := World.block_lt_of_cell? _ _ hw390_0; first | rwa [add_block] at this | exact this) GW392.out)) | (show (Addr.add _ _).block ≠ _; rw [add_block]; exact Nat.ne_of_lt (Nat.lt_of_lt_of_le (by have := World.block_lt_of_cell? _ _ hw390_0; first | rwa [add_block] at this | exact this) GW392.out)) | (dsimp only; exact Nat.ne_of_lt (Nat.lt_of_lt_of_le (by have := World.block_lt_of_cell? _ _ hw390_0; first | rwa [add_block] at this | exact this) GW392.out))) _).trans (((cell_far (p := ⟨gb392, _, none⟩) (by first | exact Nat.ne_of_lt (Nat.lt_of_lt_of_le (by have := World.block_lt_of_cell? _ _ hw390_0; first | rwa [add_block] at this | exact this) GW392.out) | (rw [add_block]; exact Nat.ne_of_lt (Nat.lt_of_lt_of_le (by have := World.block_lt_of_cell? _ _ hw390_0; first | rwa [add_block] at this | exact this) GW392.out)) | (show (Addr.add _ _).block ≠ _; rw [add_block]; exact Nat.ne_of_lt (Nat.lt_of_lt_of_le (by have := World.block_lt_of_cell? _ _ hw390_0; first | rwa [add_block] at this | exact this) GW392.out)) | (dsimp only; exact Nat.ne_of_lt (Nat.lt_of_lt_of_le (by have := World.block_lt_of_cell? _ _ hw390_0; first | rwa [add_block] at this | exact this) GW392.out))) _).trans (((cell_far (p := ⟨gb392, _, none⟩) (by first | exact Nat.ne_of_lt (Nat.lt_of_lt_of_le (by have := World.block_lt_of_cell? _ _ hw390_0; first | rwa [add_block] at this | exact this) GW392.out) | (rw [add_block]; exact Nat.ne_of_lt (Nat.lt_of_lt_of_le (by have := World.block_lt_of_cell? _ _ hw390_0; first | rwa [add_block] at this | exact this) GW392.out)) | (show (Addr.add _ _).block ≠ _; rw [add_block]; exact Nat.ne_of_lt (Nat.lt_of_lt_of_le (by have := World.block_lt_of_cell? _ _ hw390_0; first | rwa [add_block] at this | exact this) GW392.out)) | (dsimp only; exact Nat.ne_of_lt (Nat.lt_of_lt_of_le (by have := World.block_lt_of_cell? _ _ hw390_0; first | rwa [add_block] at this | exact this) GW392.out))) _).trans (hHeld.2.2.2.1)))))), ((cell_far (p := ⟨gb392, _, none⟩) (by first | exact Nat.ne_of_lt (Nat.lt_of_lt_of_le (by have := World.block_lt_of_cell? _ _ hw390_1; first | rwa [add_block] at this | exact this) GW392.out) | (rw [add_block]; exact Nat.ne_of_lt (Nat.lt_of_lt_of_le (by have := World.block_lt_of_cell? _ _ hw390_1; first | rwa [add_block] at this | exact this) GW392.out)) | (show (Addr.add _ _).block ≠ _; rw [add_block]; exact Nat.ne_of_lt (Nat.lt_of_lt_of_le (by have := World.block_lt_of_cell? _ _ hw390_1; first | rwa [add_block] at this | exact this) GW392.out)) | (dsimp only; exact Nat.ne_of_lt (Nat.lt_of_lt_of_le (by have := World.block_lt_of_cell? _ _ hw390_1; first | rwa [add_block] at this | exact this) GW392.out))) _).trans (((cell_far (p := ⟨gb392, _, none⟩) (by first | exact Nat.ne_of_lt (Nat.lt_of_lt_of_le (by have := World.block_lt_of_cell? _ _ hw390_1; first | rwa [add_block] at this | exact this) GW392.out) | (rw [add_block]; exact Nat.ne_of_lt (Nat.lt_of_lt_of_le (by have := World.block_lt_of_cell? _ _ hw390_1; first | rwa [add_block] at this | exact this) GW392.out)) | (show (Addr.add _ _).block ≠ _; rw [add_block]; exact Nat.ne_of_lt (Nat.lt_of_lt_of_le (by have := World.block_lt_of_cell? _ _ hw390_1; first | rwa [add_block] at this | exact this) GW392.out)) | (dsimp only; exact Nat.ne_of_lt (Nat.lt_of_lt_of_le (by have := World.block_lt_of_cell? _ _ hw390_1; first | rwa [add_block] at this | exact this) GW392.out))) _).trans (((cell_far (p := ⟨gb392, _, none⟩) (by first | exact Nat.ne_of_lt (Nat.lt_of_lt_of_le (by have := World.block_lt_of_cell? _ _ hw390_1; first | rwa [add_block] at this | exact this) GW392.out) | (rw [add_block]; exact Nat.ne_of_lt (Nat.lt_of_lt_of_le (by have := World.block_lt_of_cell? _ _ hw390_1; first | rwa [add_block] at this | exact this) GW392.out)) | (show (Addr.add _ _).block ≠ _; rw [add_block]; exact Nat.ne_of_lt (Nat.lt_of_lt_of_le (by have := World.block_lt_of_cell? _ _ hw390_1; first | rwa [add_block] at this | exact this) GW392.out)) | (dsimp only; exact Nat.ne_of_lt (Nat.lt_of_lt_of_le (by have := World.block_lt_of_cell? _ _ hw390_1; first | rwa [add_block] at this | exact this) GW392.out))) _).trans (hHeld.2.2.2.2.1)))))), ((cell_far (p := ⟨gb392, _, none⟩) (by first | exact Nat.ne_of_lt (Nat.lt_of_lt_of_le (by have := World.block_lt_of_cell? _ _ hw390_2; first | rwa [add_block] at this | exact this) GW392.out) | (rw [add_block]; exact Nat.ne_of_lt (Nat.lt_of_lt_of_le (by have := World.block_lt_of_cell? _ _ hw390_2; first | rwa [add_block] at this | exact this) GW392.out)) | (show (Addr.add _ _).block ≠ _; rw [add_block]; exact Nat.ne_of_lt (Nat.lt_of_lt_of_le (by have := World.block_lt_of_cell? _ _ hw390_2; first | rwa [add_block] at this | exact this) GW392.out)) | (dsimp only; exact Nat.ne_of_lt (Nat.lt_of_lt_of_le (by have := World.block_lt_of_cell? _ _ hw390_2; first | rwa [add_block] at this | exact this) GW392.out))) _).trans (((cell_far (p := ⟨gb392, _, none⟩) (by first | exact Nat.ne_of_lt (Nat.lt_of_lt_of_le (by have := World.block_lt_of_cell? _ _ hw390_2; first | rwa [add_block] at this | exact this) GW392.out) | (rw [add_block]; exact Nat.ne_of_lt (Nat.lt_of_lt_of_le (by have := World.block_lt_of_cell? _ _ hw390_2; first | rwa [add_block] at this | exact this) GW392.out)) | (show (Addr.add _ _).block ≠ _; rw [add_block]; exact Nat.ne_of_lt (Nat.lt_of_lt_of_le (by have := World.block_lt_of_cell? _ _ hw390_2; first | rwa [add_block] at this | exact this) GW392.out)) | (dsimp only; exact Nat.ne_of_lt (Nat.lt_of_lt_of_le (by have := World.block_lt_of_cell? _ _ hw390_2; first | rwa [add_block] at this | exact this) GW392.out))) _).trans (((cell_far (p := ⟨gb392, _, none⟩) (by first | exact Nat.ne_of_lt (Nat.lt_of_lt_of_le (by have := World.block_lt_of_cell? _ _ hw390_2; first | rwa [add_block] at this | exact this) GW392.out) | (rw [add_block]; exact Nat.ne_of_lt (Nat.lt_of_lt_of_le (by have := World.block_lt_of_cell? _ _ hw390_2; first | rwa [add_block] at this | exact this) GW392.out)) | (show (Addr.add _ _).block ≠ _; rw [add_block]; exact Nat.ne_of_lt (Nat.lt_of_lt_of_le (by have := World.block_lt_of_cell? _ _ hw390_2; first | rwa [add_block] at this | exact this) GW392.out)) | (dsimp only; exact Nat.ne_of_lt (Nat.lt_of_lt_of_le (by have := World.block_lt_of_cell? _ _ hw390_2; first | rwa [add_block] at this | exact this) GW392.out))) _).trans (hHeld.2.2.2.2.2))))))⟩ (fun hHeld => ?_)
          clear hK K
          refine done_ (done_of HT_.out (by kernel_rfl)) ?_
          go_upto_region 2 with (fail)
          go_cut [17] (fun v17 wc => ∃ (kq : Nat) (x17_7 : Bool), v17 = .bool x17_7 ∧ Aside0 (calcheck_why.j0 kq a1 a2 x17_7 ((rd_T33 l0 a1).f0) ((rd_T33 l0 a1).f1) ((rd_T33 l0 a1).f2) ((rd_T33 l0 a2).f0) ((rd_T33 l0 a2).f1) ((rd_T33 l0 a2).f2) = some r) ∧ Aside0 (kq ≤ k) ∧ Aside0 (wc.heap[gb391]? = some (.cells #[.int .i64 ((rd_T33 l0 a1).f0), .int .i64 ((rd_T33 l0 a1).f1), .int .i64 ((rd_T33 l0 a1).f2)] 33 (0, 0))) ∧ Aside0 (wc.heap[gb392]? = some (.cells #[.int .i64 ((rd_T33 l0 a2).f0), .int .i64 ((rd_T33 l0 a2).f1), .int .i64 ((rd_T33 l0 a2).f2)] 33 (0, 0))) ∧ Aside0 (Below w.heap.size w wc))
          case first =>
            have H := HC8.out
            clear HC8
            replace H := Option.bind_eq_some_iff.mp H
            obtain ⟨t393, A190, H⟩ := H
            replace H : (if t393 = true then (if ((rd_T33 l0 a2).f0) = 4 then (calcheck_why.j0 k a1 a2 (decide (((rd_T33 l0 a2).f2) < ((rd_T33 l0 a1).f2))) ((rd_T33 l0 a1).f0) ((rd_T33 l0 a1).f1) ((rd_T33 l0 a1).f2) ((rd_T33 l0 a2).f0) ((rd_T33 l0 a2).f1) ((rd_T33 l0 a2).f2)) else (calcheck_why.j0 k a1 a2 false ((rd_T33 l0 a1).f0) ((rd_T33 l0 a1).f1) ((rd_T33 l0 a1).f2) ((rd_T33 l0 a2).f0) ((rd_T33 l0 a2).f1) ((rd_T33 l0 a2).f2))) else (calcheck_why.j0 k a1 a2 false ((rd_T33 l0 a1).f0) ((rd_T33 l0 a1).f1) ((rd_T33 l0 a1).f2) ((rd_T33 l0 a2).f0) ((rd_T33 l0 a2).f1) ((rd_T33 l0 a2).f2))) = some r := H
            have A19 := Aside0.mk A190
            clear A190
            by_cases c20 : t393 = true
            · subst c20
              have H1 : (if ((rd_T33 l0 a2).f0) = 4 then (calcheck_why.j0 k a1 a2 (decide (((rd_T33 l0 a2).f2) < ((rd_T33 l0 a1).f2))) ((rd_T33 l0 a1).f0) ((rd_T33 l0 a1).f1) ((rd_T33 l0 a1).f2) ((rd_T33 l0 a2).f0) ((rd_T33 l0 a2).f1) ((rd_T33 l0 a2).f2)) else (calcheck_why.j0 k a1 a2 false ((rd_T33 l0 a1).f0) ((rd_T33 l0 a1).f1) ((rd_T33 l0 a1).f2) ((rd_T33 l0 a2).f0) ((rd_T33 l0 a2).f1) ((rd_T33 l0 a2).f2))) = some r := by rw [if_pos rfl] at H; exact H
              clear H
              have H := H1
              clear H1
              by_cases c21 : ((rd_T33 l0 a2).f0) = 4
              · rw [if_pos c21] at H
                have c21b0 : (((rd_T33 l0 a2).f0) == 4) = true := beq_iff_eq.mpr c21
                have c21b1 : (((rd_T33 l0 a2).f0) != 4) = false := bne_eq_false_iff_eq.mpr c21
                clear c21
                (first | rw [c21b0] | (simp only [i64_w, i32_w]; rw [c21b0]) | skip)
                have H' := Aside0.mk H
                clear H
                have hnb22 := NB391_392.out
                have hnc22 := NB392_391.out
                have hcz23_0 : w12.cell? ⟨gb391, 0, none⟩ = some (.int .i64 0) := (blk_cell BK391.out 0).trans rfl
                have hcz23_1 : w12.cell? ⟨gb391, 1, none⟩ = some (.int .i64 0) := (blk_cell BK391.out 1).trans rfl
                have hcz23_2 : w12.cell? ⟨gb391, 2, none⟩ = some (.int .i64 0) := (blk_cell BK391.out 2).trans rfl
                have hfz23_0 := blk_frozen BK391.out 0
                have hfz23_1 := blk_frozen BK391.out 1
                have hfz23_2 := blk_frozen BK391.out 2
                go_wp2_with (first | ((with_reducible refine gate_callee (f := 51) rfl ?_); refine goesL_ (some 19) rfl rfl Tryd.func51 (by kernel_rfl) rfl #[.agg #[.int .i64 ((rd_T33 l0 a1).f0), .int .i64 ((rd_T33 l0 a1).f1), .int .i64 ((rd_T33 l0 a1).f2)]] rfl (by (try simp only [List.map_toArray, List.map_cons, List.map_nil]); first | done | rfl | (simp only [List.length_drop, List.length_take]; rfl)) ?_; (with_reducible refine (calcheck_keeps.calls ((rd_T33 l0 a1).f0) ((rd_T33 l0 a1).f1) ((rd_T33 l0 a1).f2) true _ A19.out).mono ?_); rintro e w24 ⟨rfl, hb⟩; refine ⟨_, rfl, ?_⟩; have n0_ := Aside0.mk (blk_below (g := gb391) (o := .cells #[.int .i64 ((rd_T33 l0 a1).f0), .int .i64 ((rd_T33 l0 a1).f1), .int .i64 ((rd_T33 l0 a1).f2)] 33 (0, 0)) (by (with_reducible repeat (first | refine blk_drewN ?_ _ | refine blk_drew ?_ | refine blk_alloc ?_ _)); refine blk_far ?_ NB391_392.out _; (with_reducible repeat (first | refine blk_drewN ?_ _ | refine blk_drew ?_ | refine blk_alloc ?_ _)); refine blk_far ?_ NB391_392.out _; (with_reducible repeat (first | refine blk_drewN ?_ _ | refine blk_drew ?_ | refine blk_alloc ?_ _)); refine blk_far ?_ NB391_392.out _; (with_reducible repeat (first | refine blk_drewN ?_ _ | refine blk_drew ?_ | refine blk_alloc ?_ _)); refine blk_put (cs := #[.int .i64 ((rd_T33 l0 a1).f0), .int .i64 ((rd_T33 l0 a1).f1), .int .i64 0]) ?_ 2 _ rfl; (with_reducible repeat (first | refine blk_drewN ?_ _ | refine blk_drew ?_ | refine blk_alloc ?_ _)); refine blk_put (cs := #[.int .i64 ((rd_T33 l0 a1).f0), .int .i64 0, .int .i64 0]) ?_ 1 _ rfl; (with_reducible repeat (first | refine blk_drewN ?_ _ | refine blk_drew ?_ | refine blk_alloc ?_ _)); refine blk_put (cs := #[.int .i64 0, .int .i64 0, .int .i64 0]) ?_ 0 _ rfl; (with_reducible repeat (first | refine blk_drewN ?_ _ | refine blk_drew ?_ | refine blk_alloc ?_ _)); exact BK391.out) hb); have n1_ := Aside0.mk (blk_below (g := gb392) (o := .cells #[.int .i64 ((rd_T33 l0 a2).f0), .int .i64 ((rd_T33 l0 a2).f1), .int .i64 ((rd_T33 l0 a2).f2)] 33 (0, 0)) (by (with_reducible repeat (first | refine blk_drewN ?_ _ | refine blk_drew ?_ | refine blk_alloc ?_ _)); refine blk_put (cs := #[.int .i64 ((rd_T33 l0 a2).f0), .int .i64 ((rd_T33 l0 a2).f1), .int .i64 0]) ?_ 2 _ rfl; (with_reducible repeat (first | refine blk_drewN ?_ _ | refine blk_drew ?_ | refine blk_alloc ?_ _)); refine blk_put (cs := #[.int .i64 ((rd_T33 l0 a2).f0), .int .i64 0, .int .i64 0]) ?_ 1 _ rfl; (with_reducible repeat (first | refine blk_drewN ?_ _ | refine blk_drew ?_ | refine blk_alloc ?_ _)); refine blk_put (cs := #[.int .i64 0, .int .i64 0, .int .i64 0]) ?_ 0 _ rfl; (with_reducible repeat (first | refine blk_drewN ?_ _ | refine blk_drew ?_ | refine blk_alloc ?_ _)); refine blk_far ?_ NB392_391.out _; (with_reducible repeat (first | refine blk_drewN ?_ _ | refine blk_drew ?_ | refine blk_alloc ?_ _)); refine blk_far ?_ NB392_391.out _; (with_reducible repeat (first | refine blk_drewN ?_ _ | refine blk_drew ?_ | refine blk_alloc ?_ _)); refine blk_far ?_ NB392_391.out _; (with_reducible repeat (first | refine blk_drewN ?_ _ | refine blk_drew ?_ | refine blk_alloc ?_ _)); exact BK392.out) hb); have n2_ := Aside0.mk (below_step (by repeat (first | (with_reducible first | exact HB.out | apply below_alloc | apply pw_below_drewN | apply below_drew1 | refine below_set ?_ GE391.out | refine below_set ?_ GE392.out) | exact HB.out)) hb); clear BK391; clear BK392; clear HB; have BK391 := n0_; have BK392 := n1_; have HB := n2_; clear n0_ n1_ n2_; (try clear hb); (try clear hb2); (try clear hk); (try clear hi); have hcz25_0 : w24.cell? ⟨gb392, 0, none⟩ = some (.int .i64 ((rd_T33 l0 a2).f0)) := (blk_cell BK392.out 0).trans rfl; have hcz25_1 : w24.cell? ⟨gb392, 1, none⟩ = some (.int .i64 ((rd_T33 l0 a2).f1)) := (blk_cell BK392.out 1).trans rfl; have hcz25_2 : w24.cell? ⟨gb392, 2, none⟩ = some (.int .i64 ((rd_T33 l0 a2).f2)) := (blk_cell BK392.out 2).trans rfl; have hfz25_0 := blk_frozen BK392.out 0; have hfz25_1 := blk_frozen BK392.out 1; have hfz25_2 := blk_frozen BK392.out 2; have hcz26_0 : w24.cell? ⟨gb391, 0, none⟩ = some (.int .i64 ((rd_T33 l0 a1).f0)) := (blk_cell BK391.out 0).trans rfl; have hcz26_1 : w24.cell? ⟨gb391, 1, none⟩ = some (.int .i64 ((rd_T33 l0 a1).f1)) := (blk_cell BK391.out 1).trans rfl; have hcz26_2 : w24.cell? ⟨gb391, 2, none⟩ = some (.int .i64 ((rd_T33 l0 a1).f2)) := (blk_cell BK391.out 2).trans rfl; have hfz26_0 := blk_frozen BK391.out 0; have hfz26_1 := blk_frozen BK391.out 1; have hfz26_2 := blk_frozen BK391.out 2))
                go_meet
                case rel => exact ⟨_, (decide (((rd_T33 l0 a2).f2) < ((rd_T33 l0 a1).f2))), (by first | rfl | (simp; done) | (simp [*]; done)), H', ⟨by first | omega | exact Nat.le_refl _⟩, ⟨by (with_reducible repeat (first | refine blk_drewN ?_ _ | refine blk_drew ?_ | refine blk_alloc ?_ _)); exact BK391.out⟩, ⟨by (with_reducible repeat (first | refine blk_drewN ?_ _ | refine blk_drew ?_ | refine blk_alloc ?_ _)); exact BK392.out⟩, ⟨by repeat (first | (with_reducible first | exact HB.out | apply below_alloc | apply pw_below_drewN | apply below_drew1 | refine below_set ?_ GE391.out | refine below_set ?_ GE392.out) | exact HB.out)⟩⟩
              · rw [if_neg c21] at H
                have c21b0 : (((rd_T33 l0 a2).f0) == 4) = false := beq_eq_false_iff_ne.mpr c21
                have c21b1 : (((rd_T33 l0 a2).f0) != 4) = true := bne_iff_ne.mpr c21
                (first | rw [c21b0] | (simp only [i64_w, i32_w]; rw [c21b0]) | skip)
                have H' := Aside0.mk H
                clear H
                have hnb27 := NB391_392.out
                have hnc27 := NB392_391.out
                have hcz28_0 : w12.cell? ⟨gb391, 0, none⟩ = some (.int .i64 0) := (blk_cell BK391.out 0).trans rfl
                have hcz28_1 : w12.cell? ⟨gb391, 1, none⟩ = some (.int .i64 0) := (blk_cell BK391.out 1).trans rfl
                have hcz28_2 : w12.cell? ⟨gb391, 2, none⟩ = some (.int .i64 0) := (blk_cell BK391.out 2).trans rfl
                have hfz28_0 := blk_frozen BK391.out 0
                have hfz28_1 := blk_frozen BK391.out 1
                have hfz28_2 := blk_frozen BK391.out 2
                go_wp2_with (first | ((with_reducible refine gate_callee (f := 51) rfl ?_); refine goesL_ (some 19) rfl rfl Tryd.func51 (by kernel_rfl) rfl #[.agg #[.int .i64 ((rd_T33 l0 a1).f0), .int .i64 ((rd_T33 l0 a1).f1), .int .i64 ((rd_T33 l0 a1).f2)]] rfl (by (try simp only [List.map_toArray, List.map_cons, List.map_nil]); first | done | rfl | (simp only [List.length_drop, List.length_take]; rfl)) ?_; (with_reducible refine (calcheck_keeps.calls ((rd_T33 l0 a1).f0) ((rd_T33 l0 a1).f1) ((rd_T33 l0 a1).f2) true _ A19.out).mono ?_); rintro e w29 ⟨rfl, hb⟩; refine ⟨_, rfl, ?_⟩; have n0_ := Aside0.mk (blk_below (g := gb391) (o := .cells #[.int .i64 ((rd_T33 l0 a1).f0), .int .i64 ((rd_T33 l0 a1).f1), .int .i64 ((rd_T33 l0 a1).f2)] 33 (0, 0)) (by (with_reducible repeat (first | refine blk_drewN ?_ _ | refine blk_drew ?_ | refine blk_alloc ?_ _)); refine blk_far ?_ NB391_392.out _; (with_reducible repeat (first | refine blk_drewN ?_ _ | refine blk_drew ?_ | refine blk_alloc ?_ _)); refine blk_far ?_ NB391_392.out _; (with_reducible repeat (first | refine blk_drewN ?_ _ | refine blk_drew ?_ | refine blk_alloc ?_ _)); refine blk_far ?_ NB391_392.out _; (with_reducible repeat (first | refine blk_drewN ?_ _ | refine blk_drew ?_ | refine blk_alloc ?_ _)); refine blk_put (cs := #[.int .i64 ((rd_T33 l0 a1).f0), .int .i64 ((rd_T33 l0 a1).f1), .int .i64 0]) ?_ 2 _ rfl; (with_reducible repeat (first | refine blk_drewN ?_ _ | refine blk_drew ?_ | refine blk_alloc ?_ _)); refine blk_put (cs := #[.int .i64 ((rd_T33 l0 a1).f0), .int .i64 0, .int .i64 0]) ?_ 1 _ rfl; (with_reducible repeat (first | refine blk_drewN ?_ _ | refine blk_drew ?_ | refine blk_alloc ?_ _)); refine blk_put (cs := #[.int .i64 0, .int .i64 0, .int .i64 0]) ?_ 0 _ rfl; (with_reducible repeat (first | refine blk_drewN ?_ _ | refine blk_drew ?_ | refine blk_alloc ?_ _)); exact BK391.out) hb); have n1_ := Aside0.mk (blk_below (g := gb392) (o := .cells #[.int .i64 ((rd_T33 l0 a2).f0), .int .i64 ((rd_T33 l0 a2).f1), .int .i64 ((rd_T33 l0 a2).f2)] 33 (0, 0)) (by (with_reducible repeat (first | refine blk_drewN ?_ _ | refine blk_drew ?_ | refine blk_alloc ?_ _)); refine blk_put (cs := #[.int .i64 ((rd_T33 l0 a2).f0), .int .i64 ((rd_T33 l0 a2).f1), .int .i64 0]) ?_ 2 _ rfl; (with_reducible repeat (first | refine blk_drewN ?_ _ | refine blk_drew ?_ | refine blk_alloc ?_ _)); refine blk_put (cs := #[.int .i64 ((rd_T33 l0 a2).f0), .int .i64 0, .int .i64 0]) ?_ 1 _ rfl; (with_reducible repeat (first | refine blk_drewN ?_ _ | refine blk_drew ?_ | refine blk_alloc ?_ _)); refine blk_put (cs := #[.int .i64 0, .int .i64 0, .int .i64 0]) ?_ 0 _ rfl; (with_reducible repeat (first | refine blk_drewN ?_ _ | refine blk_drew ?_ | refine blk_alloc ?_ _)); refine blk_far ?_ NB392_391.out _; (with_reducible repeat (first | refine blk_drewN ?_ _ | refine blk_drew ?_ | refine blk_alloc ?_ _)); refine blk_far ?_ NB392_391.out _; (with_reducible repeat (first | refine blk_drewN ?_ _ | refine blk_drew ?_ | refine blk_alloc ?_ _)); refine blk_far ?_ NB392_391.out _; (with_reducible repeat (first | refine blk_drewN ?_ _ | refine blk_drew ?_ | refine blk_alloc ?_ _)); exact BK392.out) hb); have n2_ := Aside0.mk (below_step (by repeat (first | (with_reducible first | exact HB.out | apply below_alloc | apply pw_below_drewN | apply below_drew1 | refine below_set ?_ GE391.out | refine below_set ?_ GE392.out) | exact HB.out)) hb); clear BK391; clear BK392; clear HB; have BK391 := n0_; have BK392 := n1_; have HB := n2_; clear n0_ n1_ n2_; (try clear hb); (try clear hb2); (try clear hk); (try clear hi); have hcz30_0 : w29.cell? ⟨gb392, 0, none⟩ = some (.int .i64 ((rd_T33 l0 a2).f0)) := (blk_cell BK392.out 0).trans rfl; have hcz30_1 : w29.cell? ⟨gb392, 1, none⟩ = some (.int .i64 ((rd_T33 l0 a2).f1)) := (blk_cell BK392.out 1).trans rfl; have hcz30_2 : w29.cell? ⟨gb392, 2, none⟩ = some (.int .i64 ((rd_T33 l0 a2).f2)) := (blk_cell BK392.out 2).trans rfl; have hfz30_0 := blk_frozen BK392.out 0; have hfz30_1 := blk_frozen BK392.out 1; have hfz30_2 := blk_frozen BK392.out 2))
                go_meet
                case rel => exact ⟨_, (false), (by first | rfl | (simp; done) | (simp [*]; done)), H', ⟨by first | omega | exact Nat.le_refl _⟩, ⟨by (with_reducible repeat (first | refine blk_drewN ?_ _ | refine blk_drew ?_ | refine blk_alloc ?_ _)); exact BK391.out⟩, ⟨by (with_reducible repeat (first | refine blk_drewN ?_ _ | refine blk_drew ?_ | refine blk_alloc ?_ _)); exact BK392.out⟩, ⟨by repeat (first | (with_reducible first | exact HB.out | apply below_alloc | apply pw_below_drewN | apply below_drew1 | refine below_set ?_ GE391.out | refine below_set ?_ GE392.out) | exact HB.out)⟩⟩
            · replace c20 := Bool.eq_false_iff.mpr c20
              subst c20
              have H1 : (calcheck_why.j0 k a1 a2 false ((rd_T33 l0 a1).f0) ((rd_T33 l0 a1).f1) ((rd_T33 l0 a1).f2) ((rd_T33 l0 a2).f0) ((rd_T33 l0 a2).f1) ((rd_T33 l0 a2).f2)) = some r := by rw [if_neg (show ¬ (false = true) by decide)] at H; exact H
              clear H
              have H := H1
              clear H1
              have H' := Aside0.mk H
              clear H
              have hnb31 := NB391_392.out
              have hnc31 := NB392_391.out
              have hcz32_0 : w12.cell? ⟨gb391, 0, none⟩ = some (.int .i64 0) := (blk_cell BK391.out 0).trans rfl
              have hcz32_1 : w12.cell? ⟨gb391, 1, none⟩ = some (.int .i64 0) := (blk_cell BK391.out 1).trans rfl
              have hcz32_2 : w12.cell? ⟨gb391, 2, none⟩ = some (.int .i64 0) := (blk_cell BK391.out 2).trans rfl
              have hfz32_0 := blk_frozen BK391.out 0
              have hfz32_1 := blk_frozen BK391.out 1
              have hfz32_2 := blk_frozen BK391.out 2
              go_wp2_with (first | ((with_reducible refine gate_callee (f := 51) rfl ?_); refine goesL_ (some 19) rfl rfl Tryd.func51 (by kernel_rfl) rfl #[.agg #[.int .i64 ((rd_T33 l0 a1).f0), .int .i64 ((rd_T33 l0 a1).f1), .int .i64 ((rd_T33 l0 a1).f2)]] rfl (by (try simp only [List.map_toArray, List.map_cons, List.map_nil]); first | done | rfl | (simp only [List.length_drop, List.length_take]; rfl)) ?_; (with_reducible refine (calcheck_keeps.calls ((rd_T33 l0 a1).f0) ((rd_T33 l0 a1).f1) ((rd_T33 l0 a1).f2) false _ A19.out).mono ?_); rintro e w33 ⟨rfl, hb⟩; refine ⟨_, rfl, ?_⟩; have n0_ := Aside0.mk (blk_below (g := gb391) (o := .cells #[.int .i64 ((rd_T33 l0 a1).f0), .int .i64 ((rd_T33 l0 a1).f1), .int .i64 ((rd_T33 l0 a1).f2)] 33 (0, 0)) (by (with_reducible repeat (first | refine blk_drewN ?_ _ | refine blk_drew ?_ | refine blk_alloc ?_ _)); refine blk_far ?_ NB391_392.out _; (with_reducible repeat (first | refine blk_drewN ?_ _ | refine blk_drew ?_ | refine blk_alloc ?_ _)); refine blk_far ?_ NB391_392.out _; (with_reducible repeat (first | refine blk_drewN ?_ _ | refine blk_drew ?_ | refine blk_alloc ?_ _)); refine blk_far ?_ NB391_392.out _; (with_reducible repeat (first | refine blk_drewN ?_ _ | refine blk_drew ?_ | refine blk_alloc ?_ _)); refine blk_put (cs := #[.int .i64 ((rd_T33 l0 a1).f0), .int .i64 ((rd_T33 l0 a1).f1), .int .i64 0]) ?_ 2 _ rfl; (with_reducible repeat (first | refine blk_drewN ?_ _ | refine blk_drew ?_ | refine blk_alloc ?_ _)); refine blk_put (cs := #[.int .i64 ((rd_T33 l0 a1).f0), .int .i64 0, .int .i64 0]) ?_ 1 _ rfl; (with_reducible repeat (first | refine blk_drewN ?_ _ | refine blk_drew ?_ | refine blk_alloc ?_ _)); refine blk_put (cs := #[.int .i64 0, .int .i64 0, .int .i64 0]) ?_ 0 _ rfl; (with_reducible repeat (first | refine blk_drewN ?_ _ | refine blk_drew ?_ | refine blk_alloc ?_ _)); exact BK391.out) hb); have n1_ := Aside0.mk (blk_below (g := gb392) (o := .cells #[.int .i64 ((rd_T33 l0 a2).f0), .int .i64 ((rd_T33 l0 a2).f1), .int .i64 ((rd_T33 l0 a2).f2)] 33 (0, 0)) (by (with_reducible repeat (first | refine blk_drewN ?_ _ | refine blk_drew ?_ | refine blk_alloc ?_ _)); refine blk_put (cs := #[.int .i64 ((rd_T33 l0 a2).f0), .int .i64 ((rd_T33 l0 a2).f1), .int .i64 0]) ?_ 2 _ rfl; (with_reducible repeat (first | refine blk_drewN ?_ _ | refine blk_drew ?_ | refine blk_alloc ?_ _)); refine blk_put (cs := #[.int .i64 ((rd_T33 l0 a2).f0), .int .i64 0, .int .i64 0]) ?_ 1 _ rfl; (with_reducible repeat (first | refine blk_drewN ?_ _ | refine blk_drew ?_ | refine blk_alloc ?_ _)); refine blk_put (cs := #[.int .i64 0, .int .i64 0, .int .i64 0]) ?_ 0 _ rfl; (with_reducible repeat (first | refine blk_drewN ?_ _ | refine blk_drew ?_ | refine blk_alloc ?_ _)); refine blk_far ?_ NB392_391.out _; (with_reducible repeat (first | refine blk_drewN ?_ _ | refine blk_drew ?_ | refine blk_alloc ?_ _)); refine blk_far ?_ NB392_391.out _; (with_reducible repeat (first | refine blk_drewN ?_ _ | refine blk_drew ?_ | refine blk_alloc ?_ _)); refine blk_far ?_ NB392_391.out _; (with_reducible repeat (first | refine blk_drewN ?_ _ | refine blk_drew ?_ | refine blk_alloc ?_ _)); exact BK392.out) hb); have n2_ := Aside0.mk (below_step (by repeat (first | (with_reducible first | exact HB.out | apply below_alloc | apply pw_below_drewN | apply below_drew1 | refine below_set ?_ GE391.out | refine below_set ?_ GE392.out) | exact HB.out)) hb); clear BK391; clear BK392; clear HB; have BK391 := n0_; have BK392 := n1_; have HB := n2_; clear n0_ n1_ n2_; (try clear hb); (try clear hb2); (try clear hk); (try clear hi)))
              go_meet
              case rel => exact ⟨_, (false), (by first | rfl | (simp; done) | (simp [*]; done)), H', ⟨by first | omega | exact Nat.le_refl _⟩, ⟨by (with_reducible repeat (first | refine blk_drewN ?_ _ | refine blk_drew ?_ | refine blk_alloc ?_ _)); exact BK391.out⟩, ⟨by (with_reducible repeat (first | refine blk_drewN ?_ _ | refine blk_drew ?_ | refine blk_alloc ?_ _)); exact BK392.out⟩, ⟨by repeat (first | (with_reducible first | exact HB.out | apply below_alloc | apply pw_below_drewN | apply below_drew1 | refine below_set ?_ GE391.out | refine below_set ?_ GE392.out) | exact HB.out)⟩⟩
          case rest =>
            clear HC8
            try clear c2
            try clear p2
            try clear c3
            try clear p3
            try clear q3
            try clear hx3
            try clear c4
            try clear c4b0
            try clear c5
            try clear c5b0
            try clear c6
            try clear c6b0
            try clear c7
            try clear c7b0
            try clear c20
            try clear c21
            try clear c21b0
            try clear c21b1
            try clear c22
            try clear c27
            try clear c31
            try clear hcz23_0
            try clear hcz23_1
            try clear hcz23_2
            try clear hcz25_0
            try clear hcz25_1
            try clear hcz25_2
            try clear hcz26_0
            try clear hcz26_1
            try clear hcz26_2
            try clear hcz28_0
            try clear hcz28_1
            try clear hcz28_2
            try clear hcz30_0
            try clear hcz30_1
            try clear hcz30_2
            try clear hcz32_0
            try clear hcz32_1
            try clear hcz32_2
            try clear hfz23_0
            try clear hfz23_1
            try clear hfz23_2
            try clear hfz25_0
            try clear hfz25_1
            try clear hfz25_2
            try clear hfz26_0
            try clear hfz26_1
            try clear hfz26_2
            try clear hfz28_0
            try clear hfz28_1
            try clear hfz28_2
            try clear hfz30_0
            try clear hfz30_1
            try clear hfz30_2
            try clear hfz32_0
            try clear hfz32_1
            try clear hfz32_2
            try clear hx389_0
            try clear hx389_1
            try clear hx389_2
            try clear hx390_0
            try clear hx390_1
            try clear hx390_2
            try clear p389
            try clear p390
            try clear q389
            try clear q390
            obtain ⟨kq, x17_7, rfl, HA, HJ7, BK391, BK392, HB⟩ := hcut
            cases kq with
            | zero => exact absurd HA.out (by simp [calcheck_why.j0])
            | succ kj7 =>
              have H := HA.out
              clear HA
              simp only [calcheck_why.j0] at H
              by_cases c34 : x17_7 = true
              · subst c34
                have H1 : (some 1) = some r := by rw [if_pos rfl] at H; exact H
                clear H
                have H := H1
                clear H1
                obtain rfl := Option.some.inj H
                go_wp2
                go_ret
                exact ⟨by first | rfl | (simp [errW_none, errW_some] <;> rfl) | (simp [*, errW_none, errW_some] <;> rfl), by repeat (first | (with_reducible first | exact HB.out | apply below_alloc | apply pw_below_drewN | apply below_drew1 | refine below_set ?_ GE391.out | refine below_set ?_ GE392.out) | exact HB.out)⟩
              · replace c34 := Bool.eq_false_iff.mpr c34
                subst c34
                have H1 : (if ((rd_T33 l0 a1).f0) = 4 then (if ((rd_T33 l0 a2).f0) = 4 then (calcheck_why.j1 kj7 a1 a2 (decide (a1 > a2)) ((rd_T33 l0 a1).f0) ((rd_T33 l0 a1).f1) ((rd_T33 l0 a1).f2) ((rd_T33 l0 a2).f0) ((rd_T33 l0 a2).f1) ((rd_T33 l0 a2).f2)) else (calcheck_why.j1 kj7 a1 a2 false ((rd_T33 l0 a1).f0) ((rd_T33 l0 a1).f1) ((rd_T33 l0 a1).f2) ((rd_T33 l0 a2).f0) ((rd_T33 l0 a2).f1) ((rd_T33 l0 a2).f2))) else (calcheck_why.j1 kj7 a1 a2 false ((rd_T33 l0 a1).f0) ((rd_T33 l0 a1).f1) ((rd_T33 l0 a1).f2) ((rd_T33 l0 a2).f0) ((rd_T33 l0 a2).f1) ((rd_T33 l0 a2).f2))) = some r := by rw [if_neg (show ¬ (false = true) by decide)] at H; exact H
                clear H
                have H := H1
                clear H1
                have HC35 := Aside0.mk H
                clear H
                go_upto_region 4 with (fail)
                go_cut [32] (fun v32 wc => ∃ (kq : Nat) (x32_34 : Bool), v32 = .bool x32_34 ∧ Aside0 (calcheck_why.j1 kq a1 a2 x32_34 ((rd_T33 l0 a1).f0) ((rd_T33 l0 a1).f1) ((rd_T33 l0 a1).f2) ((rd_T33 l0 a2).f0) ((rd_T33 l0 a2).f1) ((rd_T33 l0 a2).f2) = some r) ∧ Aside0 (kq ≤ kj7) ∧ Aside0 (wc.heap[gb391]? = some (.cells #[.int .i64 ((rd_T33 l0 a1).f0), .int .i64 ((rd_T33 l0 a1).f1), .int .i64 ((rd_T33 l0 a1).f2)] 33 (0, 0))) ∧ Aside0 (wc.heap[gb392]? = some (.cells #[.int .i64 ((rd_T33 l0 a2).f0), .int .i64 ((rd_T33 l0 a2).f1), .int .i64 ((rd_T33 l0 a2).f2)] 33 (0, 0))) ∧ Aside0 (Below w.heap.size w wc))
                case first =>
                  have H := HC35.out
                  clear HC35
                  by_cases c36 : ((rd_T33 l0 a1).f0) = 4
                  · rw [if_pos c36] at H
                    have c36b0 : (((rd_T33 l0 a1).f0) == 4) = true := beq_iff_eq.mpr c36
                    have c36b1 : (((rd_T33 l0 a1).f0) != 4) = false := bne_eq_false_iff_eq.mpr c36
                    clear c36
                    (first | rw [c36b0] | (simp only [i64_w, i32_w]; rw [c36b0]) | skip)
                    by_cases c37 : ((rd_T33 l0 a2).f0) = 4
                    · rw [if_pos c37] at H
                      have c37b0 : (((rd_T33 l0 a2).f0) == 4) = true := beq_iff_eq.mpr c37
                      have c37b1 : (((rd_T33 l0 a2).f0) != 4) = false := bne_eq_false_iff_eq.mpr c37
                      clear c37
                      have H' := Aside0.mk H
                      clear H
                      have hnb38 := NB391_392.out
                      have hnc38 := NB392_391.out
                      have hcz39_0 : wc.cell? ⟨gb391, 0, none⟩ = some (.int .i64 ((rd_T33 l0 a1).f0)) := (blk_cell BK391.out 0).trans rfl
                      have hcz39_1 : wc.cell? ⟨gb391, 1, none⟩ = some (.int .i64 ((rd_T33 l0 a1).f1)) := (blk_cell BK391.out 1).trans rfl
                      have hcz39_2 : wc.cell? ⟨gb391, 2, none⟩ = some (.int .i64 ((rd_T33 l0 a1).f2)) := (blk_cell BK391.out 2).trans rfl
                      have hfz39_0 := blk_frozen BK391.out 0
                      have hfz39_1 := blk_frozen BK391.out 1
                      have hfz39_2 := blk_frozen BK391.out 2
                      have hcz40_0 : wc.cell? ⟨gb392, 0, none⟩ = some (.int .i64 ((rd_T33 l0 a2).f0)) := (blk_cell BK392.out 0).trans rfl
                      have hcz40_1 : wc.cell? ⟨gb392, 1, none⟩ = some (.int .i64 ((rd_T33 l0 a2).f1)) := (blk_cell BK392.out 1).trans rfl
                      have hcz40_2 : wc.cell? ⟨gb392, 2, none⟩ = some (.int .i64 ((rd_T33 l0 a2).f2)) := (blk_cell BK392.out 2).trans rfl
                      have hfz40_0 := blk_frozen BK392.out 0
                      have hfz40_1 := blk_frozen BK392.out 1
                      have hfz40_2 := blk_frozen BK392.out 2
                      go_wp2
                      go_meet
                      case rel => exact ⟨_, (decide (a1 > a2)), (by first | rfl | (simp; done) | (simp [*]; done)), H', ⟨by have := HJ7.out; first | omega | exact Nat.le_refl _⟩, ⟨by (with_reducible repeat (first | refine blk_drewN ?_ _ | refine blk_drew ?_ | refine blk_alloc ?_ _)); exact BK391.out⟩, ⟨by (with_reducible repeat (first | refine blk_drewN ?_ _ | refine blk_drew ?_ | refine blk_alloc ?_ _)); exact BK392.out⟩, ⟨by repeat (first | (with_reducible first | exact HB.out | apply below_alloc | apply pw_below_drewN | apply below_drew1 | refine below_set ?_ GE391.out | refine below_set ?_ GE392.out) | exact HB.out)⟩⟩
                    · rw [if_neg c37] at H
                      have c37b0 : (((rd_T33 l0 a2).f0) == 4) = false := beq_eq_false_iff_ne.mpr c37
                      have c37b1 : (((rd_T33 l0 a2).f0) != 4) = true := bne_iff_ne.mpr c37
                      have H' := Aside0.mk H
                      clear H
                      have hnb41 := NB391_392.out
                      have hnc41 := NB392_391.out
                      have hcz42_0 : wc.cell? ⟨gb391, 0, none⟩ = some (.int .i64 ((rd_T33 l0 a1).f0)) := (blk_cell BK391.out 0).trans rfl
                      have hcz42_1 : wc.cell? ⟨gb391, 1, none⟩ = some (.int .i64 ((rd_T33 l0 a1).f1)) := (blk_cell BK391.out 1).trans rfl
                      have hcz42_2 : wc.cell? ⟨gb391, 2, none⟩ = some (.int .i64 ((rd_T33 l0 a1).f2)) := (blk_cell BK391.out 2).trans rfl
                      have hfz42_0 := blk_frozen BK391.out 0
                      have hfz42_1 := blk_frozen BK391.out 1
                      have hfz42_2 := blk_frozen BK391.out 2
                      have hcz43_0 : wc.cell? ⟨gb392, 0, none⟩ = some (.int .i64 ((rd_T33 l0 a2).f0)) := (blk_cell BK392.out 0).trans rfl
                      have hcz43_1 : wc.cell? ⟨gb392, 1, none⟩ = some (.int .i64 ((rd_T33 l0 a2).f1)) := (blk_cell BK392.out 1).trans rfl
                      have hcz43_2 : wc.cell? ⟨gb392, 2, none⟩ = some (.int .i64 ((rd_T33 l0 a2).f2)) := (blk_cell BK392.out 2).trans rfl
                      have hfz43_0 := blk_frozen BK392.out 0
                      have hfz43_1 := blk_frozen BK392.out 1
                      have hfz43_2 := blk_frozen BK392.out 2
                      go_wp2
                      go_meet
                      case rel => exact ⟨_, (false), (by first | rfl | (simp; done) | (simp [*]; done)), H', ⟨by have := HJ7.out; first | omega | exact Nat.le_refl _⟩, ⟨by (with_reducible repeat (first | refine blk_drewN ?_ _ | refine blk_drew ?_ | refine blk_alloc ?_ _)); exact BK391.out⟩, ⟨by (with_reducible repeat (first | refine blk_drewN ?_ _ | refine blk_drew ?_ | refine blk_alloc ?_ _)); exact BK392.out⟩, ⟨by repeat (first | (with_reducible first | exact HB.out | apply below_alloc | apply pw_below_drewN | apply below_drew1 | refine below_set ?_ GE391.out | refine below_set ?_ GE392.out) | exact HB.out)⟩⟩
                  · rw [if_neg c36] at H
                    have c36b0 : (((rd_T33 l0 a1).f0) == 4) = false := beq_eq_false_iff_ne.mpr c36
                    have c36b1 : (((rd_T33 l0 a1).f0) != 4) = true := bne_iff_ne.mpr c36
                    (first | rw [c36b0] | (simp only [i64_w, i32_w]; rw [c36b0]) | skip)
                    have H' := Aside0.mk H
                    clear H
                    have hnb44 := NB391_392.out
                    have hnc44 := NB392_391.out
                    have hcz45_0 : wc.cell? ⟨gb391, 0, none⟩ = some (.int .i64 ((rd_T33 l0 a1).f0)) := (blk_cell BK391.out 0).trans rfl
                    have hcz45_1 : wc.cell? ⟨gb391, 1, none⟩ = some (.int .i64 ((rd_T33 l0 a1).f1)) := (blk_cell BK391.out 1).trans rfl
                    have hcz45_2 : wc.cell? ⟨gb391, 2, none⟩ = some (.int .i64 ((rd_T33 l0 a1).f2)) := (blk_cell BK391.out 2).trans rfl
                    have hfz45_0 := blk_frozen BK391.out 0
                    have hfz45_1 := blk_frozen BK391.out 1
                    have hfz45_2 := blk_frozen BK391.out 2
                    go_wp2
                    go_meet
                    case rel => exact ⟨_, (false), (by first | rfl | (simp; done) | (simp [*]; done)), H', ⟨by have := HJ7.out; first | omega | exact Nat.le_refl _⟩, ⟨by (with_reducible repeat (first | refine blk_drewN ?_ _ | refine blk_drew ?_ | refine blk_alloc ?_ _)); exact BK391.out⟩, ⟨by (with_reducible repeat (first | refine blk_drewN ?_ _ | refine blk_drew ?_ | refine blk_alloc ?_ _)); exact BK392.out⟩, ⟨by repeat (first | (with_reducible first | exact HB.out | apply below_alloc | apply pw_below_drewN | apply below_drew1 | refine below_set ?_ GE391.out | refine below_set ?_ GE392.out) | exact HB.out)⟩⟩
                case rest =>
                  clear HC35
                  try clear c2
                  try clear p2
                  try clear c3
                  try clear p3
                  try clear q3
                  try clear hx3
                  try clear c4
                  try clear c4b0
                  try clear c5
                  try clear c5b0
                  try clear c6
                  try clear c6b0
                  try clear c7
                  try clear c7b0
                  try clear c20
                  try clear c21
                  try clear c21b0
                  try clear c21b1
                  try clear c22
                  try clear c27
                  try clear c31
                  try clear c34
                  try clear c36
                  try clear c36b0
                  try clear c36b1
                  try clear c37
                  try clear c37b0
                  try clear c37b1
                  try clear c38
                  try clear p38
                  try clear q38
                  try clear hx38
                  try clear p39
                  try clear q39
                  try clear hx39
                  try clear c41
                  try clear c43
                  try clear c44
                  try clear hcz23_0
                  try clear hcz23_1
                  try clear hcz23_2
                  try clear hcz25_0
                  try clear hcz25_1
                  try clear hcz25_2
                  try clear hcz26_0
                  try clear hcz26_1
                  try clear hcz26_2
                  try clear hcz28_0
                  try clear hcz28_1
                  try clear hcz28_2
                  try clear hcz30_0
                  try clear hcz30_1
                  try clear hcz30_2
                  try clear hcz32_0
                  try clear hcz32_1
                  try clear hcz32_2
                  try clear hcz39_0
                  try clear hcz39_1
                  try clear hcz39_2
                  try clear hcz40_0
                  try clear hcz40_1
                  try clear hcz40_2
                  try clear hcz42_0
                  try clear hcz42_1
                  try clear hcz42_2
                  try clear hcz43_0
                  try clear hcz43_1
                  try clear hcz43_2
                  try clear hcz45_0
                  try clear hcz45_1
                  try clear hcz45_2
                  try clear hfz23_0
                  try clear hfz23_1
                  try clear hfz23_2
                  try clear hfz25_0
                  try clear hfz25_1
                  try clear hfz25_2
                  try clear hfz26_0
                  try clear hfz26_1
                  try clear hfz26_2
                  try clear hfz28_0
                  try clear hfz28_1
                  try clear hfz28_2
                  try clear hfz30_0
                  try clear hfz30_1
                  try clear hfz30_2
                  try clear hfz32_0
                  try clear hfz32_1
                  try clear hfz32_2
                  try clear hfz39_0
                  try clear hfz39_1
                  try clear hfz39_2
                  try clear hfz40_0
                  try clear hfz40_1
                  try clear hfz40_2
                  try clear hfz42_0
                  try clear hfz42_1
                  try clear hfz42_2
                  try clear hfz43_0
                  try clear hfz43_1
                  try clear hfz43_2
                  try clear hfz45_0
                  try clear hfz45_1
                  try clear hfz45_2
                  try clear hx389_0
                  try clear hx389_1
                  try clear hx389_2
                  try clear hx390_0
                  try clear hx390_1
                  try clear hx390_2
                  try clear p2
                  try clear p3
                  try clear p389
                  try clear p390
                  try clear q3
                  try clear q389
                  try clear q390
                  obtain ⟨kq, x32_34, rfl, HA, HJ34, BK391, BK392, HB⟩ := hcut
                  cases kq with
                  | zero => exact absurd HA.out (by simp [calcheck_why.j1])
                  | succ kj34 =>
                    have H := HA.out
                    clear HA
                    simp only [calcheck_why.j1] at H
                    by_cases c46 : x32_34 = true
                    · subst c46
                      have H1 : (some 2) = some r := by rw [if_pos rfl] at H; exact H
                      clear H
                      have H := H1
                      clear H1
                      obtain rfl := Option.some.inj H
                      go_wp2
                      go_ret
                      exact ⟨by first | rfl | (simp [errW_none, errW_some] <;> rfl) | (simp [*, errW_none, errW_some] <;> rfl), by repeat (first | (with_reducible first | exact HB.out | apply below_alloc | apply pw_below_drewN | apply below_drew1 | refine below_set ?_ GE391.out | refine below_set ?_ GE392.out) | exact HB.out)⟩
                    · replace c46 := Bool.eq_false_iff.mpr c46
                      subst c46
                      have H1 : ((calcheck_covers.f kj34 ((rd_T33 l0 a2).f0) ((rd_T33 l0 a2).f1) ((rd_T33 l0 a2).f2) ((rd_T33 l0 a1).f0) ((rd_T33 l0 a1).f1) ((rd_T33 l0 a1).f2)).bind fun t394 => (if t394 = true then ((calcheck_covers.f kj34 ((rd_T33 l0 a1).f0) ((rd_T33 l0 a1).f1) ((rd_T33 l0 a1).f2) ((rd_T33 l0 a2).f0) ((rd_T33 l0 a2).f1) ((rd_T33 l0 a2).f2)).bind fun t395 => (if t395 = true then (if a1 > a2 then (some 3) else (some 0)) else (some 3))) else (some 0))) = some r := by rw [if_neg (show ¬ (false = true) by decide)] at H; exact H
                      clear H
                      have H := H1
                      clear H1
                      replace H := Option.bind_eq_some_iff.mp H
                      obtain ⟨t394, A470, H⟩ := H
                      replace H : (if t394 = true then ((calcheck_covers.f kj34 ((rd_T33 l0 a1).f0) ((rd_T33 l0 a1).f1) ((rd_T33 l0 a1).f2) ((rd_T33 l0 a2).f0) ((rd_T33 l0 a2).f1) ((rd_T33 l0 a2).f2)).bind fun t395 => (if t395 = true then (if a1 > a2 then (some 3) else (some 0)) else (some 3))) else (some 0)) = some r := H
                      have A47 := Aside0.mk A470
                      clear A470
                      by_cases c48 : t394 = true
                      · subst c48
                        have H1 : ((calcheck_covers.f kj34 ((rd_T33 l0 a1).f0) ((rd_T33 l0 a1).f1) ((rd_T33 l0 a1).f2) ((rd_T33 l0 a2).f0) ((rd_T33 l0 a2).f1) ((rd_T33 l0 a2).f2)).bind fun t395 => (if t395 = true then (if a1 > a2 then (some 3) else (some 0)) else (some 3))) = some r := by rw [if_pos rfl] at H; exact H
                        clear H
                        have H := H1
                        clear H1
                        replace H := Option.bind_eq_some_iff.mp H
                        obtain ⟨t395, A490, H⟩ := H
                        replace H : (if t395 = true then (if a1 > a2 then (some 3) else (some 0)) else (some 3)) = some r := H
                        have A49 := Aside0.mk A490
                        clear A490
                        by_cases c50 : t395 = true
                        · subst c50
                          have H1 : (if a1 > a2 then (some 3) else (some 0)) = some r := by rw [if_pos rfl] at H; exact H
                          clear H
                          have H := H1
                          clear H1
                          by_cases c51 : a1 > a2
                          · rw [if_pos c51] at H
                            have c51b0 : decide (a2 < a1) = true := decide_eq_true c51
                            clear c51
                            obtain rfl := Option.some.inj H
                            have hnb52 := NB392_391.out
                            have hnc52 := NB391_392.out
                            have hcz53_0 : wc.cell? ⟨gb392, 0, none⟩ = some (.int .i64 ((rd_T33 l0 a2).f0)) := (blk_cell BK392.out 0).trans rfl
                            have hcz53_1 : wc.cell? ⟨gb392, 1, none⟩ = some (.int .i64 ((rd_T33 l0 a2).f1)) := (blk_cell BK392.out 1).trans rfl
                            have hcz53_2 : wc.cell? ⟨gb392, 2, none⟩ = some (.int .i64 ((rd_T33 l0 a2).f2)) := (blk_cell BK392.out 2).trans rfl
                            have hfz53_0 := blk_frozen BK392.out 0
                            have hfz53_1 := blk_frozen BK392.out 1
                            have hfz53_2 := blk_frozen BK392.out 2
                            have hcz54_0 : wc.cell? ⟨gb391, 0, none⟩ = some (.int .i64 ((rd_T33 l0 a1).f0)) := (blk_cell BK391.out 0).trans rfl
                            have hcz54_1 : wc.cell? ⟨gb391, 1, none⟩ = some (.int .i64 ((rd_T33 l0 a1).f1)) := (blk_cell BK391.out 1).trans rfl
                            have hcz54_2 : wc.cell? ⟨gb391, 2, none⟩ = some (.int .i64 ((rd_T33 l0 a1).f2)) := (blk_cell BK391.out 2).trans rfl
                            have hfz54_0 := blk_frozen BK391.out 0
                            have hfz54_1 := blk_frozen BK391.out 1
                            have hfz54_2 := blk_frozen BK391.out 2
                            go_wp2_with (first | ((with_reducible refine gate_callee (f := 52) rfl ?_); refine goesL_ (some 49) rfl rfl Tryd.func52 (by kernel_rfl) rfl #[.agg #[.int .i64 ((rd_T33 l0 a2).f0), .int .i64 ((rd_T33 l0 a2).f1), .int .i64 ((rd_T33 l0 a2).f2)], .agg #[.int .i64 ((rd_T33 l0 a1).f0), .int .i64 ((rd_T33 l0 a1).f1), .int .i64 ((rd_T33 l0 a1).f2)]] rfl (by (try simp only [List.map_toArray, List.map_cons, List.map_nil]); first | done | rfl | (simp only [List.length_drop, List.length_take]; rfl)) ?_; (with_reducible refine (calcheck_covers.calls kj34 ((rd_T33 l0 a2).f0) ((rd_T33 l0 a2).f1) ((rd_T33 l0 a2).f2) ((rd_T33 l0 a1).f0) ((rd_T33 l0 a1).f1) ((rd_T33 l0 a1).f2) true _ A47.out).mono ?_); rintro e w55 ⟨rfl, hb⟩; refine ⟨_, rfl, ?_⟩; have n0_ := Aside0.mk (blk_below (g := gb391) (o := .cells #[.int .i64 ((rd_T33 l0 a1).f0), .int .i64 ((rd_T33 l0 a1).f1), .int .i64 ((rd_T33 l0 a1).f2)] 33 (0, 0)) (by (with_reducible repeat (first | refine blk_drewN ?_ _ | refine blk_drew ?_ | refine blk_alloc ?_ _)); exact BK391.out) hb); have n1_ := Aside0.mk (blk_below (g := gb392) (o := .cells #[.int .i64 ((rd_T33 l0 a2).f0), .int .i64 ((rd_T33 l0 a2).f1), .int .i64 ((rd_T33 l0 a2).f2)] 33 (0, 0)) (by (with_reducible repeat (first | refine blk_drewN ?_ _ | refine blk_drew ?_ | refine blk_alloc ?_ _)); exact BK392.out) hb); have n2_ := Aside0.mk (below_step (by repeat (first | (with_reducible first | exact HB.out | apply below_alloc | apply pw_below_drewN | apply below_drew1 | refine below_set ?_ GE391.out | refine below_set ?_ GE392.out) | exact HB.out)) hb); clear BK391; clear BK392; clear HB; have BK391 := n0_; have BK392 := n1_; have HB := n2_; clear n0_ n1_ n2_; (try clear hb); (try clear hb2); (try clear hk); (try clear hi); have hcz56_0 : w55.cell? ⟨gb391, 0, none⟩ = some (.int .i64 ((rd_T33 l0 a1).f0)) := (blk_cell BK391.out 0).trans rfl; have hcz56_1 : w55.cell? ⟨gb391, 1, none⟩ = some (.int .i64 ((rd_T33 l0 a1).f1)) := (blk_cell BK391.out 1).trans rfl; have hcz56_2 : w55.cell? ⟨gb391, 2, none⟩ = some (.int .i64 ((rd_T33 l0 a1).f2)) := (blk_cell BK391.out 2).trans rfl; have hfz56_0 := blk_frozen BK391.out 0; have hfz56_1 := blk_frozen BK391.out 1; have hfz56_2 := blk_frozen BK391.out 2; have hcz57_0 : w55.cell? ⟨gb392, 0, none⟩ = some (.int .i64 ((rd_T33 l0 a2).f0)) := (blk_cell BK392.out 0).trans rfl; have hcz57_1 : w55.cell? ⟨gb392, 1, none⟩ = some (.int .i64 ((rd_T33 l0 a2).f1)) := (blk_cell BK392.out 1).trans rfl; have hcz57_2 : w55.cell? ⟨gb392, 2, none⟩ = some (.int .i64 ((rd_T33 l0 a2).f2)) := (blk_cell BK392.out 2).trans rfl; have hfz57_0 := blk_frozen BK392.out 0; have hfz57_1 := blk_frozen BK392.out 1; have hfz57_2 := blk_frozen BK392.out 2) | (go_at_call 52; (with_reducible refine (calcheck_covers.calls kj34 ((rd_T33 l0 a1).f0) ((rd_T33 l0 a1).f1) ((rd_T33 l0 a1).f2) ((rd_T33 l0 a2).f0) ((rd_T33 l0 a2).f1) ((rd_T33 l0 a2).f2) true _ A49.out).mono ?_); rintro e w58 ⟨rfl, hb⟩; have n0_ := Aside0.mk (blk_below (g := gb391) (o := .cells #[.int .i64 ((rd_T33 l0 a1).f0), .int .i64 ((rd_T33 l0 a1).f1), .int .i64 ((rd_T33 l0 a1).f2)] 33 (0, 0)) (by (with_reducible repeat (first | refine blk_drewN ?_ _ | refine blk_drew ?_ | refine blk_alloc ?_ _)); exact BK391.out) hb); have n1_ := Aside0.mk (blk_below (g := gb392) (o := .cells #[.int .i64 ((rd_T33 l0 a2).f0), .int .i64 ((rd_T33 l0 a2).f1), .int .i64 ((rd_T33 l0 a2).f2)] 33 (0, 0)) (by (with_reducible repeat (first | refine blk_drewN ?_ _ | refine blk_drew ?_ | refine blk_alloc ?_ _)); exact BK392.out) hb); have n2_ := Aside0.mk (below_step (by repeat (first | (with_reducible first | exact HB.out | apply below_alloc | apply pw_below_drewN | apply below_drew1 | refine below_set ?_ GE391.out | refine below_set ?_ GE392.out) | exact HB.out)) hb); clear BK391; clear BK392; clear HB; have BK391 := n0_; have BK392 := n1_; have HB := n2_; clear n0_ n1_ n2_; (try clear hb); (try clear hb2); (try clear hk); (try clear hi)))
                            go_ret
                            exact ⟨by first | rfl | (simp [errW_none, errW_some] <;> rfl) | (simp [*, errW_none, errW_some] <;> rfl), by repeat (first | (with_reducible first | exact HB.out | apply below_alloc | apply pw_below_drewN | apply below_drew1 | refine below_set ?_ GE391.out | refine below_set ?_ GE392.out) | exact HB.out)⟩
                          · rw [if_neg c51] at H
                            have c51b0 : decide (a2 < a1) = false := decide_eq_false c51
                            clear c51
                            obtain rfl := Option.some.inj H
                            have hnb59 := NB392_391.out
                            have hnc59 := NB391_392.out
                            have hcz60_0 : wc.cell? ⟨gb392, 0, none⟩ = some (.int .i64 ((rd_T33 l0 a2).f0)) := (blk_cell BK392.out 0).trans rfl
                            have hcz60_1 : wc.cell? ⟨gb392, 1, none⟩ = some (.int .i64 ((rd_T33 l0 a2).f1)) := (blk_cell BK392.out 1).trans rfl
                            have hcz60_2 : wc.cell? ⟨gb392, 2, none⟩ = some (.int .i64 ((rd_T33 l0 a2).f2)) := (blk_cell BK392.out 2).trans rfl
                            have hfz60_0 := blk_frozen BK392.out 0
                            have hfz60_1 := blk_frozen BK392.out 1
                            have hfz60_2 := blk_frozen BK392.out 2
                            have hcz61_0 : wc.cell? ⟨gb391, 0, none⟩ = some (.int .i64 ((rd_T33 l0 a1).f0)) := (blk_cell BK391.out 0).trans rfl
                            have hcz61_1 : wc.cell? ⟨gb391, 1, none⟩ = some (.int .i64 ((rd_T33 l0 a1).f1)) := (blk_cell BK391.out 1).trans rfl
                            have hcz61_2 : wc.cell? ⟨gb391, 2, none⟩ = some (.int .i64 ((rd_T33 l0 a1).f2)) := (blk_cell BK391.out 2).trans rfl
                            have hfz61_0 := blk_frozen BK391.out 0
                            have hfz61_1 := blk_frozen BK391.out 1
                            have hfz61_2 := blk_frozen BK391.out 2
                            go_wp2_with (first | ((with_reducible refine gate_callee (f := 52) rfl ?_); refine goesL_ (some 49) rfl rfl Tryd.func52 (by kernel_rfl) rfl #[.agg #[.int .i64 ((rd_T33 l0 a2).f0), .int .i64 ((rd_T33 l0 a2).f1), .int .i64 ((rd_T33 l0 a2).f2)], .agg #[.int .i64 ((rd_T33 l0 a1).f0), .int .i64 ((rd_T33 l0 a1).f1), .int .i64 ((rd_T33 l0 a1).f2)]] rfl (by (try simp only [List.map_toArray, List.map_cons, List.map_nil]); first | done | rfl | (simp only [List.length_drop, List.length_take]; rfl)) ?_; (with_reducible refine (calcheck_covers.calls kj34 ((rd_T33 l0 a2).f0) ((rd_T33 l0 a2).f1) ((rd_T33 l0 a2).f2) ((rd_T33 l0 a1).f0) ((rd_T33 l0 a1).f1) ((rd_T33 l0 a1).f2) true _ A47.out).mono ?_); rintro e w62 ⟨rfl, hb⟩; refine ⟨_, rfl, ?_⟩; have n0_ := Aside0.mk (blk_below (g := gb391) (o := .cells #[.int .i64 ((rd_T33 l0 a1).f0), .int .i64 ((rd_T33 l0 a1).f1), .int .i64 ((rd_T33 l0 a1).f2)] 33 (0, 0)) (by (with_reducible repeat (first | refine blk_drewN ?_ _ | refine blk_drew ?_ | refine blk_alloc ?_ _)); exact BK391.out) hb); have n1_ := Aside0.mk (blk_below (g := gb392) (o := .cells #[.int .i64 ((rd_T33 l0 a2).f0), .int .i64 ((rd_T33 l0 a2).f1), .int .i64 ((rd_T33 l0 a2).f2)] 33 (0, 0)) (by (with_reducible repeat (first | refine blk_drewN ?_ _ | refine blk_drew ?_ | refine blk_alloc ?_ _)); exact BK392.out) hb); have n2_ := Aside0.mk (below_step (by repeat (first | (with_reducible first | exact HB.out | apply below_alloc | apply pw_below_drewN | apply below_drew1 | refine below_set ?_ GE391.out | refine below_set ?_ GE392.out) | exact HB.out)) hb); clear BK391; clear BK392; clear HB; have BK391 := n0_; have BK392 := n1_; have HB := n2_; clear n0_ n1_ n2_; (try clear hb); (try clear hb2); (try clear hk); (try clear hi); have hcz63_0 : w62.cell? ⟨gb391, 0, none⟩ = some (.int .i64 ((rd_T33 l0 a1).f0)) := (blk_cell BK391.out 0).trans rfl; have hcz63_1 : w62.cell? ⟨gb391, 1, none⟩ = some (.int .i64 ((rd_T33 l0 a1).f1)) := (blk_cell BK391.out 1).trans rfl; have hcz63_2 : w62.cell? ⟨gb391, 2, none⟩ = some (.int .i64 ((rd_T33 l0 a1).f2)) := (blk_cell BK391.out 2).trans rfl; have hfz63_0 := blk_frozen BK391.out 0; have hfz63_1 := blk_frozen BK391.out 1; have hfz63_2 := blk_frozen BK391.out 2; have hcz64_0 : w62.cell? ⟨gb392, 0, none⟩ = some (.int .i64 ((rd_T33 l0 a2).f0)) := (blk_cell BK392.out 0).trans rfl; have hcz64_1 : w62.cell? ⟨gb392, 1, none⟩ = some (.int .i64 ((rd_T33 l0 a2).f1)) := (blk_cell BK392.out 1).trans rfl; have hcz64_2 : w62.cell? ⟨gb392, 2, none⟩ = some (.int .i64 ((rd_T33 l0 a2).f2)) := (blk_cell BK392.out 2).trans rfl; have hfz64_0 := blk_frozen BK392.out 0; have hfz64_1 := blk_frozen BK392.out 1; have hfz64_2 := blk_frozen BK392.out 2) | (go_at_call 52; (with_reducible refine (calcheck_covers.calls kj34 ((rd_T33 l0 a1).f0) ((rd_T33 l0 a1).f1) ((rd_T33 l0 a1).f2) ((rd_T33 l0 a2).f0) ((rd_T33 l0 a2).f1) ((rd_T33 l0 a2).f2) true _ A49.out).mono ?_); rintro e w65 ⟨rfl, hb⟩; have n0_ := Aside0.mk (blk_below (g := gb391) (o := .cells #[.int .i64 ((rd_T33 l0 a1).f0), .int .i64 ((rd_T33 l0 a1).f1), .int .i64 ((rd_T33 l0 a1).f2)] 33 (0, 0)) (by (with_reducible repeat (first | refine blk_drewN ?_ _ | refine blk_drew ?_ | refine blk_alloc ?_ _)); exact BK391.out) hb); have n1_ := Aside0.mk (blk_below (g := gb392) (o := .cells #[.int .i64 ((rd_T33 l0 a2).f0), .int .i64 ((rd_T33 l0 a2).f1), .int .i64 ((rd_T33 l0 a2).f2)] 33 (0, 0)) (by (with_reducible repeat (first | refine blk_drewN ?_ _ | refine blk_drew ?_ | refine blk_alloc ?_ _)); exact BK392.out) hb); have n2_ := Aside0.mk (below_step (by repeat (first | (with_reducible first | exact HB.out | apply below_alloc | apply pw_below_drewN | apply below_drew1 | refine below_set ?_ GE391.out | refine below_set ?_ GE392.out) | exact HB.out)) hb); clear BK391; clear BK392; clear HB; have BK391 := n0_; have BK392 := n1_; have HB := n2_; clear n0_ n1_ n2_; (try clear hb); (try clear hb2); (try clear hk); (try clear hi)))
                            go_ret
                            exact ⟨by first | rfl | (simp [errW_none, errW_some] <;> rfl) | (simp [*, errW_none, errW_some] <;> rfl), by repeat (first | (with_reducible first | exact HB.out | apply below_alloc | apply pw_below_drewN | apply below_drew1 | refine below_set ?_ GE391.out | refine below_set ?_ GE392.out) | exact HB.out)⟩
                        · replace c50 := Bool.eq_false_iff.mpr c50
                          subst c50
                          have H1 : (some 3) = some r := by rw [if_neg (show ¬ (false = true) by decide)] at H; exact H
                          clear H
                          have H := H1
                          clear H1
                          obtain rfl := Option.some.inj H
                          have hnb66 := NB392_391.out
                          have hnc66 := NB391_392.out
                          have hcz67_0 : wc.cell? ⟨gb392, 0, none⟩ = some (.int .i64 ((rd_T33 l0 a2).f0)) := (blk_cell BK392.out 0).trans rfl
                          have hcz67_1 : wc.cell? ⟨gb392, 1, none⟩ = some (.int .i64 ((rd_T33 l0 a2).f1)) := (blk_cell BK392.out 1).trans rfl
                          have hcz67_2 : wc.cell? ⟨gb392, 2, none⟩ = some (.int .i64 ((rd_T33 l0 a2).f2)) := (blk_cell BK392.out 2).trans rfl
                          have hfz67_0 := blk_frozen BK392.out 0
                          have hfz67_1 := blk_frozen BK392.out 1
                          have hfz67_2 := blk_frozen BK392.out 2
                          have hcz68_0 : wc.cell? ⟨gb391, 0, none⟩ = some (.int .i64 ((rd_T33 l0 a1).f0)) := (blk_cell BK391.out 0).trans rfl
                          have hcz68_1 : wc.cell? ⟨gb391, 1, none⟩ = some (.int .i64 ((rd_T33 l0 a1).f1)) := (blk_cell BK391.out 1).trans rfl
                          have hcz68_2 : wc.cell? ⟨gb391, 2, none⟩ = some (.int .i64 ((rd_T33 l0 a1).f2)) := (blk_cell BK391.out 2).trans rfl
                          have hfz68_0 := blk_frozen BK391.out 0
                          have hfz68_1 := blk_frozen BK391.out 1
                          have hfz68_2 := blk_frozen BK391.out 2
                          go_wp2_with (first | ((with_reducible refine gate_callee (f := 52) rfl ?_); refine goesL_ (some 49) rfl rfl Tryd.func52 (by kernel_rfl) rfl #[.agg #[.int .i64 ((rd_T33 l0 a2).f0), .int .i64 ((rd_T33 l0 a2).f1), .int .i64 ((rd_T33 l0 a2).f2)], .agg #[.int .i64 ((rd_T33 l0 a1).f0), .int .i64 ((rd_T33 l0 a1).f1), .int .i64 ((rd_T33 l0 a1).f2)]] rfl (by (try simp only [List.map_toArray, List.map_cons, List.map_nil]); first | done | rfl | (simp only [List.length_drop, List.length_take]; rfl)) ?_; (with_reducible refine (calcheck_covers.calls kj34 ((rd_T33 l0 a2).f0) ((rd_T33 l0 a2).f1) ((rd_T33 l0 a2).f2) ((rd_T33 l0 a1).f0) ((rd_T33 l0 a1).f1) ((rd_T33 l0 a1).f2) true _ A47.out).mono ?_); rintro e w69 ⟨rfl, hb⟩; refine ⟨_, rfl, ?_⟩; have n0_ := Aside0.mk (blk_below (g := gb391) (o := .cells #[.int .i64 ((rd_T33 l0 a1).f0), .int .i64 ((rd_T33 l0 a1).f1), .int .i64 ((rd_T33 l0 a1).f2)] 33 (0, 0)) (by (with_reducible repeat (first | refine blk_drewN ?_ _ | refine blk_drew ?_ | refine blk_alloc ?_ _)); exact BK391.out) hb); have n1_ := Aside0.mk (blk_below (g := gb392) (o := .cells #[.int .i64 ((rd_T33 l0 a2).f0), .int .i64 ((rd_T33 l0 a2).f1), .int .i64 ((rd_T33 l0 a2).f2)] 33 (0, 0)) (by (with_reducible repeat (first | refine blk_drewN ?_ _ | refine blk_drew ?_ | refine blk_alloc ?_ _)); exact BK392.out) hb); have n2_ := Aside0.mk (below_step (by repeat (first | (with_reducible first | exact HB.out | apply below_alloc | apply pw_below_drewN | apply below_drew1 | refine below_set ?_ GE391.out | refine below_set ?_ GE392.out) | exact HB.out)) hb); clear BK391; clear BK392; clear HB; have BK391 := n0_; have BK392 := n1_; have HB := n2_; clear n0_ n1_ n2_; (try clear hb); (try clear hb2); (try clear hk); (try clear hi); have hcz70_0 : w69.cell? ⟨gb391, 0, none⟩ = some (.int .i64 ((rd_T33 l0 a1).f0)) := (blk_cell BK391.out 0).trans rfl; have hcz70_1 : w69.cell? ⟨gb391, 1, none⟩ = some (.int .i64 ((rd_T33 l0 a1).f1)) := (blk_cell BK391.out 1).trans rfl; have hcz70_2 : w69.cell? ⟨gb391, 2, none⟩ = some (.int .i64 ((rd_T33 l0 a1).f2)) := (blk_cell BK391.out 2).trans rfl; have hfz70_0 := blk_frozen BK391.out 0; have hfz70_1 := blk_frozen BK391.out 1; have hfz70_2 := blk_frozen BK391.out 2; have hcz71_0 : w69.cell? ⟨gb392, 0, none⟩ = some (.int .i64 ((rd_T33 l0 a2).f0)) := (blk_cell BK392.out 0).trans rfl; have hcz71_1 : w69.cell? ⟨gb392, 1, none⟩ = some (.int .i64 ((rd_T33 l0 a2).f1)) := (blk_cell BK392.out 1).trans rfl; have hcz71_2 : w69.cell? ⟨gb392, 2, none⟩ = some (.int .i64 ((rd_T33 l0 a2).f2)) := (blk_cell BK392.out 2).trans rfl; have hfz71_0 := blk_frozen BK392.out 0; have hfz71_1 := blk_frozen BK392.out 1; have hfz71_2 := blk_frozen BK392.out 2) | (go_at_call 52; (with_reducible refine (calcheck_covers.calls kj34 ((rd_T33 l0 a1).f0) ((rd_T33 l0 a1).f1) ((rd_T33 l0 a1).f2) ((rd_T33 l0 a2).f0) ((rd_T33 l0 a2).f1) ((rd_T33 l0 a2).f2) false _ A49.out).mono ?_); rintro e w72 ⟨rfl, hb⟩; have n0_ := Aside0.mk (blk_below (g := gb391) (o := .cells #[.int .i64 ((rd_T33 l0 a1).f0), .int .i64 ((rd_T33 l0 a1).f1), .int .i64 ((rd_T33 l0 a1).f2)] 33 (0, 0)) (by (with_reducible repeat (first | refine blk_drewN ?_ _ | refine blk_drew ?_ | refine blk_alloc ?_ _)); exact BK391.out) hb); have n1_ := Aside0.mk (blk_below (g := gb392) (o := .cells #[.int .i64 ((rd_T33 l0 a2).f0), .int .i64 ((rd_T33 l0 a2).f1), .int .i64 ((rd_T33 l0 a2).f2)] 33 (0, 0)) (by (with_reducible repeat (first | refine blk_drewN ?_ _ | refine blk_drew ?_ | refine blk_alloc ?_ _)); exact BK392.out) hb); have n2_ := Aside0.mk (below_step (by repeat (first | (with_reducible first | exact HB.out | apply below_alloc | apply pw_below_drewN | apply below_drew1 | refine below_set ?_ GE391.out | refine below_set ?_ GE392.out) | exact HB.out)) hb); clear BK391; clear BK392; clear HB; have BK391 := n0_; have BK392 := n1_; have HB := n2_; clear n0_ n1_ n2_; (try clear hb); (try clear hb2); (try clear hk); (try clear hi)))
                          go_ret
                          exact ⟨by first | rfl | (simp [errW_none, errW_some] <;> rfl) | (simp [*, errW_none, errW_some] <;> rfl), by repeat (first | (with_reducible first | exact HB.out | apply below_alloc | apply pw_below_drewN | apply below_drew1 | refine below_set ?_ GE391.out | refine below_set ?_ GE392.out) | exact HB.out)⟩
                      · replace c48 := Bool.eq_false_iff.mpr c48
                        subst c48
                        have H1 : (some 0) = some r := by rw [if_neg (show ¬ (false = true) by decide)] at H; exact H
                        clear H
                        have H := H1
                        clear H1
                        obtain rfl := Option.some.inj H
                        have hnb73 := NB392_391.out
                        have hnc73 := NB391_392.out
                        have hcz74_0 : wc.cell? ⟨gb392, 0, none⟩ = some (.int .i64 ((rd_T33 l0 a2).f0)) := (blk_cell BK392.out 0).trans rfl
                        have hcz74_1 : wc.cell? ⟨gb392, 1, none⟩ = some (.int .i64 ((rd_T33 l0 a2).f1)) := (blk_cell BK392.out 1).trans rfl
                        have hcz74_2 : wc.cell? ⟨gb392, 2, none⟩ = some (.int .i64 ((rd_T33 l0 a2).f2)) := (blk_cell BK392.out 2).trans rfl
                        have hfz74_0 := blk_frozen BK392.out 0
                        have hfz74_1 := blk_frozen BK392.out 1
                        have hfz74_2 := blk_frozen BK392.out 2
                        have hcz75_0 : wc.cell? ⟨gb391, 0, none⟩ = some (.int .i64 ((rd_T33 l0 a1).f0)) := (blk_cell BK391.out 0).trans rfl
                        have hcz75_1 : wc.cell? ⟨gb391, 1, none⟩ = some (.int .i64 ((rd_T33 l0 a1).f1)) := (blk_cell BK391.out 1).trans rfl
                        have hcz75_2 : wc.cell? ⟨gb391, 2, none⟩ = some (.int .i64 ((rd_T33 l0 a1).f2)) := (blk_cell BK391.out 2).trans rfl
                        have hfz75_0 := blk_frozen BK391.out 0
                        have hfz75_1 := blk_frozen BK391.out 1
                        have hfz75_2 := blk_frozen BK391.out 2
                        go_wp2_with (first | ((with_reducible refine gate_callee (f := 52) rfl ?_); refine goesL_ (some 49) rfl rfl Tryd.func52 (by kernel_rfl) rfl #[.agg #[.int .i64 ((rd_T33 l0 a2).f0), .int .i64 ((rd_T33 l0 a2).f1), .int .i64 ((rd_T33 l0 a2).f2)], .agg #[.int .i64 ((rd_T33 l0 a1).f0), .int .i64 ((rd_T33 l0 a1).f1), .int .i64 ((rd_T33 l0 a1).f2)]] rfl (by (try simp only [List.map_toArray, List.map_cons, List.map_nil]); first | done | rfl | (simp only [List.length_drop, List.length_take]; rfl)) ?_; (with_reducible refine (calcheck_covers.calls kj34 ((rd_T33 l0 a2).f0) ((rd_T33 l0 a2).f1) ((rd_T33 l0 a2).f2) ((rd_T33 l0 a1).f0) ((rd_T33 l0 a1).f1) ((rd_T33 l0 a1).f2) false _ A47.out).mono ?_); rintro e w76 ⟨rfl, hb⟩; refine ⟨_, rfl, ?_⟩; have n0_ := Aside0.mk (blk_below (g := gb391) (o := .cells #[.int .i64 ((rd_T33 l0 a1).f0), .int .i64 ((rd_T33 l0 a1).f1), .int .i64 ((rd_T33 l0 a1).f2)] 33 (0, 0)) (by (with_reducible repeat (first | refine blk_drewN ?_ _ | refine blk_drew ?_ | refine blk_alloc ?_ _)); exact BK391.out) hb); have n1_ := Aside0.mk (blk_below (g := gb392) (o := .cells #[.int .i64 ((rd_T33 l0 a2).f0), .int .i64 ((rd_T33 l0 a2).f1), .int .i64 ((rd_T33 l0 a2).f2)] 33 (0, 0)) (by (with_reducible repeat (first | refine blk_drewN ?_ _ | refine blk_drew ?_ | refine blk_alloc ?_ _)); exact BK392.out) hb); have n2_ := Aside0.mk (below_step (by repeat (first | (with_reducible first | exact HB.out | apply below_alloc | apply pw_below_drewN | apply below_drew1 | refine below_set ?_ GE391.out | refine below_set ?_ GE392.out) | exact HB.out)) hb); clear BK391; clear BK392; clear HB; have BK391 := n0_; have BK392 := n1_; have HB := n2_; clear n0_ n1_ n2_; (try clear hb); (try clear hb2); (try clear hk); (try clear hi)))
                        go_ret
                        exact ⟨by first | rfl | (simp [errW_none, errW_some] <;> rfl) | (simp [*, errW_none, errW_some] <;> rfl), by repeat (first | (with_reducible first | exact HB.out | apply below_alloc | apply pw_below_drewN | apply below_drew1 | refine below_set ?_ GE391.out | refine below_set ?_ GE392.out) | exact HB.out)⟩
        · rw [if_neg c7] at H
          exact absurd H (by simp)
      · rw [if_neg c6] at H
        exact absurd H (by simp)
    · rw [if_neg c5] at H
      exact absurd H (by simp)
  · rw [if_neg c4] at H
    exact absurd H (by simp)

end Go.Proofs.YthnifjggnjcenaaDoor.All
