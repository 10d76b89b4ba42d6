-- Printed by a program (wip/mkprint.sh over the kit's print.py) out of the translation; Lean checks it.
import Derived.Test.YtlfkdbfbkgcgnaaAllx0
import Derived.Test.YtlfkdbfbkgcgnaaAllx9
import Derived.Test.YtlfkdbfbkgcgnaaAllx10
namespace Go.Proofs.Ytlfkdbfbkgcgnaa.All
open Go.RowKit Go.Proofs.YtlfkdbfbkgcgnaaW.PrintWords Go.Proofs.YtlfkdbfbkgcgnaaW.PrintLast Go.Proofs.YtlfkdbfbkgcgnaaW.PrintMore
attribute [local go_sem] max2_int min2_int max_two min_two max_three min_three max_four min_four   -- for this text's walks alone
set_option linter.unusedVariables false
set_option linter.unusedSimpArgs false

/-! ### erewhileref35_why: function 19 -/
mutual
def erewhileref35_why.j0 : Nat → Int → Int → Bool → Int → Int → Int → Int → Int → Int → Option (Int)
  | 0, _, _, _, _, _, _, _, _, _ => none
  | k + 1, x1, x2, x30, x135000, x135001, x135002, x137000, x137001, x137002 => if x30 = true then (some 1) else (if x135000 = 4 then (if x137000 = 4 then (erewhileref35_why.j1 k x1 x2 (decide (x1 > x2)) x135000 x135001 x135002 x137000 x137001 x137002) else (erewhileref35_why.j1 k x1 x2 false x135000 x135001 x135002 x137000 x137001 x137002)) else (erewhileref35_why.j1 k x1 x2 false x135000 x135001 x135002 x137000 x137001 x137002))
def erewhileref35_why.j1 : Nat → Int → Int → Bool → Int → Int → Int → Int → Int → Int → Option (Int)
  | 0, _, _, _, _, _, _, _, _, _ => none
  | k + 1, x1, x2, x43, x135000, x135001, x135002, x137000, x137001, x137002 => if x43 = true then (some 2) else ((erewhileref35_Covers.f k x137000 x137001 x137002 x135000 x135001 x135002).bind fun t138 => (if t138 = true then ((erewhileref35_Covers.f k x135000 x135001 x135002 x137000 x137001 x137002).bind fun t139 => (if t139 = true then (if x1 > x2 then (some 3) else (some 0)) else (some 3))) else (some 0)))
end
def erewhileref35_why.f (k : Nat) (l0 : List (S33)) (a1 : Int) (a2 : Int) : Option (Int) := if 0 ≤ a1 then (if a1 < (l0.length : Int) then (if 0 ≤ a2 then (if a2 < (l0.length : Int) then ((erewhileref35_Keeps.f ((rd_T33 l0 a1).f0) ((rd_T33 l0 a1).f1) ((rd_T33 l0 a1).f2)).bind fun t137 => (if t137 = true then (if ((rd_T33 l0 a2).f0) = 4 then (erewhileref35_why.j0 k a1 a2 (decide (((rd_T33 l0 a2).f2) < ((rd_T33 l0 a1).f2))) ((rd_T33 l0 a1).f0) ((rd_T33 l0 a1).f1) ((rd_T33 l0 a1).f2) ((rd_T33 l0 a2).f0) ((rd_T33 l0 a2).f1) ((rd_T33 l0 a2).f2)) else (erewhileref35_why.j0 k a1 a2 false ((rd_T33 l0 a1).f0) ((rd_T33 l0 a1).f1) ((rd_T33 l0 a1).f2) ((rd_T33 l0 a2).f0) ((rd_T33 l0 a2).f1) ((rd_T33 l0 a2).f2))) else (erewhileref35_why.j0 k a1 a2 false ((rd_T33 l0 a1).f0) ((rd_T33 l0 a1).f1) ((rd_T33 l0 a1).f2) ((rd_T33 l0 a2).f0) ((rd_T33 l0 a2).f1) ((rd_T33 l0 a2).f2)))) else (none)) else (none)) else (none)) else (none)
theorem erewhileref35_why.mono_l : ∀ k, (∀ y0 y1 y2 y3 y4 y5 y6 y7 y8, LeO (erewhileref35_why.j0 k y0 y1 y2 y3 y4 y5 y6 y7 y8) (erewhileref35_why.j0 (k + 1) y0 y1 y2 y3 y4 y5 y6 y7 y8)) ∧ (∀ y0 y1 y2 y3 y4 y5 y6 y7 y8, LeO (erewhileref35_why.j1 k y0 y1 y2 y3 y4 y5 y6 y7 y8) (erewhileref35_why.j1 (k + 1) y0 y1 y2 y3 y4 y5 y6 y7 y8))
  | 0 => ⟨fun _ _ _ _ _ _ _ _ _ r h => by simp [erewhileref35_why.j0] at h, fun _ _ _ _ _ _ _ _ _ r h => by simp [erewhileref35_why.j1] at h⟩
  | k + 1 => by
    obtain ⟨ih0, ih1⟩ := erewhileref35_why.mono_l k
    refine ⟨?_, ?_⟩
    · intro y0 y1 y2 y3 y4 y5 y6 y7 y8
      unfold erewhileref35_why.j0
      repeat' first
      | (with_reducible exact ih0 _ _ _ _ _ _ _ _ _)
      | (with_reducible exact ih1 _ _ _ _ _ _ _ _ _)
      | (with_reducible exact erewhileref35_Covers.mono _ _ _ _ _ _ _)
      | (with_reducible exact LeO.refl _)
      | (with_reducible exact LeO.none _)
      | (with_reducible refine LeO.ite ?_ ?_)
      | (with_reducible refine LeO.bind ?_ (fun _ => ?_))
      | exact ih0 _ _ _ _ _ _ _ _ _
      | exact ih1 _ _ _ _ _ _ _ _ _
      | exact erewhileref35_Covers.mono _ _ _ _ _ _ _
      | exact LeO.none _
      | refine LeO.ite ?_ ?_
      | refine LeO.bind ?_ (fun _ => ?_)
    · intro y0 y1 y2 y3 y4 y5 y6 y7 y8
      unfold erewhileref35_why.j1
      repeat' first
      | (with_reducible exact ih0 _ _ _ _ _ _ _ _ _)
      | (with_reducible exact ih1 _ _ _ _ _ _ _ _ _)
      | (with_reducible exact erewhileref35_Covers.mono _ _ _ _ _ _ _)
      | (with_reducible exact LeO.refl _)
      | (with_reducible exact LeO.none _)
      | (with_reducible refine LeO.ite ?_ ?_)
      | (with_reducible refine LeO.bind ?_ (fun _ => ?_))
      | exact ih0 _ _ _ _ _ _ _ _ _
      | exact ih1 _ _ _ _ _ _ _ _ _
      | exact erewhileref35_Covers.mono _ _ _ _ _ _ _
      | exact LeO.none _
      | refine LeO.ite ?_ ?_
      | refine LeO.bind ?_ (fun _ => ?_)
theorem erewhileref35_why.mono : ∀ a0 a1 a2 k, LeO (erewhileref35_why.f k a0 a1 a2) (erewhileref35_why.f (k + 1) a0 a1 a2) := by
  intro a0 a1 a2 k
  obtain ⟨ih0, ih1⟩ := erewhileref35_why.mono_l k
  unfold erewhileref35_why.f
  repeat' first
      | (with_reducible exact ih0 _ _ _ _ _ _ _ _ _)
      | (with_reducible exact ih1 _ _ _ _ _ _ _ _ _)
      | (with_reducible exact erewhileref35_Covers.mono _ _ _ _ _ _ _)
      | (with_reducible exact LeO.refl _)
      | (with_reducible exact LeO.none _)
      | (with_reducible refine LeO.ite ?_ ?_)
      | (with_reducible refine LeO.bind ?_ (fun _ => ?_))
      | exact ih0 _ _ _ _ _ _ _ _ _
      | exact ih1 _ _ _ _ _ _ _ _ _
      | exact erewhileref35_Covers.mono _ _ _ _ _ _ _
      | exact LeO.none _
      | refine LeO.ite ?_ ?_
      | refine LeO.bind ?_ (fun _ => ?_)
set_option maxHeartbeats 8000000 in
set_option maxRecDepth 100000 in
theorem erewhileref35_why.calls (k : Nat) (A0 : Option Addr) (c0 : Nat) (l0 : List (S33)) (a1 : Int) (a2 : Int) (r : Int) (w : World) (hr0 : Kd.C k33 w A0 l0.length l0) (hc0 : l0.length ≤ c0) (h : erewhileref35_why.f k l0 a1 a2 = some r) :
    Calls Try.prog 19 #[.slice A0 l0.length c0, .int .i64 a1, .int .i64 a2] w fun e w' => e = .returned (.int .i64 r) ∧ Below w.heap.size w w' := by
  have hu33 := Try.underlying33
  have HR0 := Aside0.mk hr0
  have HC0 := Aside0.mk hc0
  clear hr0 hc0
  have HB := Aside0.mk (Below.refl w.heap.size w)
  have H : (if 0 ≤ a1 then (if a1 < (l0.length : Int) then (if 0 ≤ a2 then (if a2 < (l0.length : Int) then ((erewhileref35_Keeps.f ((rd_T33 l0 a1).f0) ((rd_T33 l0 a1).f1) ((rd_T33 l0 a1).f2)).bind fun t137 => (if t137 = true then (if ((rd_T33 l0 a2).f0) = 4 then (erewhileref35_why.j0 k a1 a2 (decide (((rd_T33 l0 a2).f2) < ((rd_T33 l0 a1).f2))) ((rd_T33 l0 a1).f0) ((rd_T33 l0 a1).f1) ((rd_T33 l0 a1).f2) ((rd_T33 l0 a2).f0) ((rd_T33 l0 a2).f1) ((rd_T33 l0 a2).f2)) else (erewhileref35_why.j0 k a1 a2 false ((rd_T33 l0 a1).f0) ((rd_T33 l0 a1).f1) ((rd_T33 l0 a1).f2) ((rd_T33 l0 a2).f0) ((rd_T33 l0 a2).f1) ((rd_T33 l0 a2).f2))) else (erewhileref35_why.j0 k a1 a2 false ((rd_T33 l0 a1).f0) ((rd_T33 l0 a1).f1) ((rd_T33 l0 a1).f2) ((rd_T33 l0 a2).f0) ((rd_T33 l0 a2).f1) ((rd_T33 l0 a2).f2)))) else (none)) else (none)) else (none)) else (none)) = some r := h
  clear h
  by_cases c4 : 0 ≤ a1
  · rw [if_pos c4] at H
    have c4b0 : decide (0 ≤ a1) = true := decide_eq_true c4
    clear c4
    by_cases c5 : a1 < (l0.length : Int)
    · rw [if_pos c5] at H
      have c5b0 : decide (a1 < (l0.length : Int)) = true := decide_eq_true c5
      clear c5
      by_cases c6 : 0 ≤ a2
      · rw [if_pos c6] at H
        have c6b0 : decide (0 ≤ a2) = true := decide_eq_true c6
        clear c6
        by_cases c7 : a2 < (l0.length : Int)
        · rw [if_pos c7] at H
          have c7b0 : decide (a2 < (l0.length : Int)) = true := decide_eq_true c7
          clear c7
          have HC8 := Aside0.mk H
          clear H
          have p133 : 0 ≤ (a1 : Int) := of_decide_eq_true (by first | (with_reducible assumption) | assumption)
          have q133 : a1 < (l0.length : Int) := of_decide_eq_true (by first | (with_reducible assumption) | assumption)
          obtain ⟨ad133, e133, hx133_0, hx133_1, hx133_2⟩ := at_T33 HR0.out a1 p133 q133
          cases e133
          replace p133 := eq_true p133
          replace q133 := eq_true q133
          go_enter Try.func19, Try.ntmps19
          go_upto_region 3 with (first | ((with_reducible refine gate_dst (N := 7) rfl ?_); refine box_event ?hg (N := 7) ?hd (cs := #[.int .i64 0, .int .i64 0, .int .i64 0]) (t := 33) ?hr ?_; (case hd => rfl); (case hg => rfl); (case hr => first | (go_simp; done) | (go_simp; rfl)); intro gb134 hg w9 hbox hb; have n0_ := Aside0.mk (below_step (by repeat (first | (with_reducible first | exact HB.out | apply below_alloc | apply pw_below_drewN | apply below_drew1) | exact HB.out)) hb); have n1_ := Aside0.mk (hbox); have n2_ := Aside0.mk ((by rw [hg]; exact (below_size (by repeat (first | (with_reducible first | exact HB.out | apply below_alloc | apply pw_below_drewN | apply below_drew1) | exact HB.out))) : w.heap.size ≤ gb134)); have n3_ := Aside0.mk ((by rw [hg]; exact (below_size (by repeat (first | (with_reducible first | exact HB.out | apply below_alloc | apply pw_below_drewN | apply below_drew1) | exact HB.out))) : w.heap.size ≤ gb134)); clear HB; have HB := n0_; have BK134 := n1_; have GW134 := n2_; have GE134 := n3_; clear n0_ n1_ n2_ n3_; clear hb hbox hg; have hcz10_0 : w9.cell? ⟨gb134, 0, none⟩ = some (.int .i64 0) := (blk_cell BK134.out 0).trans rfl; have hcz10_1 : w9.cell? ⟨gb134, 1, none⟩ = some (.int .i64 0) := (blk_cell BK134.out 1).trans rfl; have hcz10_2 : w9.cell? ⟨gb134, 2, none⟩ = some (.int .i64 0) := (blk_cell BK134.out 2).trans rfl; have hfz10_0 := blk_frozen BK134.out 0; have hfz10_1 := blk_frozen BK134.out 1; have hfz10_2 := blk_frozen BK134.out 2; have p135 : 0 ≤ (a2 : Int) := of_decide_eq_true (by first | (with_reducible assumption) | assumption); have q135 : a2 < (l0.length : Int) := of_decide_eq_true (by first | (with_reducible assumption) | assumption); obtain ⟨ad135, e135, hx135_0, hx135_1, hx135_2⟩ := at_T33 HR0.out a2 p135 q135; obtain rfl : ad133 = ad135 := (by injection e135); have hn135_0 : ad133.block ≠ gb134 := Nat.ne_of_lt (Nat.lt_of_lt_of_le (by have := World.block_lt_of_cell? _ _ hx135_0; first | rwa [add_block] at this | exact this) GW134.out); have hn135_1 : ad133.block ≠ gb134 := Nat.ne_of_lt (Nat.lt_of_lt_of_le (by have := World.block_lt_of_cell? _ _ hx135_0; first | rwa [add_block] at this | exact this) GW134.out); have hn135_2 : ad133.block ≠ gb134 := Nat.ne_of_lt (Nat.lt_of_lt_of_le (by have := World.block_lt_of_cell? _ _ hx135_0; first | rwa [add_block] at this | exact this) GW134.out); replace hx135_0 := (HB.out.cell (World.block_lt_of_cell? w _ hx135_0)).trans hx135_0; replace hx135_1 := (HB.out.cell (World.block_lt_of_cell? w _ hx135_1)).trans hx135_1; replace hx135_2 := (HB.out.cell (World.block_lt_of_cell? w _ hx135_2)).trans hx135_2; replace hx135_0 := (cell_far (p := ⟨gb134, 0, none⟩) (by first | (rw [add_block]; exact hn135_0) | (show (Addr.add _ _).block ≠ _; rw [add_block]; exact hn135_0) | exact hn135_0) (.int .i64 ((rd_T33 l0 a1).f0))).trans hx135_0; replace hx135_1 := (cell_far (p := ⟨gb134, 0, none⟩) (by first | (rw [add_block]; exact hn135_0) | (show (Addr.add _ _).block ≠ _; rw [add_block]; exact hn135_0) | exact hn135_0) (.int .i64 ((rd_T33 l0 a1).f0))).trans hx135_1; replace hx135_2 := (cell_far (p := ⟨gb134, 0, none⟩) (by first | (rw [add_block]; exact hn135_0) | (show (Addr.add _ _).block ≠ _; rw [add_block]; exact hn135_0) | exact hn135_0) (.int .i64 ((rd_T33 l0 a1).f0))).trans hx135_2; replace hx135_0 := (cell_far (p := ⟨gb134, 1, none⟩) (by first | (rw [add_block]; exact hn135_1) | (show (Addr.add _ _).block ≠ _; rw [add_block]; exact hn135_1) | exact hn135_1) (.int .i64 ((rd_T33 l0 a1).f1))).trans hx135_0; replace hx135_1 := (cell_far (p := ⟨gb134, 1, none⟩) (by first | (rw [add_block]; exact hn135_1) | (show (Addr.add _ _).block ≠ _; rw [add_block]; exact hn135_1) | exact hn135_1) (.int .i64 ((rd_T33 l0 a1).f1))).trans hx135_1; replace hx135_2 := (cell_far (p := ⟨gb134, 1, none⟩) (by first | (rw [add_block]; exact hn135_1) | (show (Addr.add _ _).block ≠ _; rw [add_block]; exact hn135_1) | exact hn135_1) (.int .i64 ((rd_T33 l0 a1).f1))).trans hx135_2; replace hx135_0 := (cell_far (p := ⟨gb134, 2, none⟩) (by first | (rw [add_block]; exact hn135_2) | (show (Addr.add _ _).block ≠ _; rw [add_block]; exact hn135_2) | exact hn135_2) (.int .i64 ((rd_T33 l0 a1).f2))).trans hx135_0; replace hx135_1 := (cell_far (p := ⟨gb134, 2, none⟩) (by first | (rw [add_block]; exact hn135_2) | (show (Addr.add _ _).block ≠ _; rw [add_block]; exact hn135_2) | exact hn135_2) (.int .i64 ((rd_T33 l0 a1).f2))).trans hx135_1; replace hx135_2 := (cell_far (p := ⟨gb134, 2, none⟩) (by first | (rw [add_block]; exact hn135_2) | (show (Addr.add _ _).block ≠ _; rw [add_block]; exact hn135_2) | exact hn135_2) (.int .i64 ((rd_T33 l0 a1).f2))).trans hx135_2; clear hn135_0; clear hn135_1; clear hn135_2; replace p135 := eq_true p135; replace q135 := eq_true q135) | ((with_reducible refine gate_dst (N := 8) rfl ?_); refine box_event ?hg (N := 8) ?hd (cs := #[.int .i64 0, .int .i64 0, .int .i64 0]) (t := 33) ?hr ?_; (case hd => rfl); (case hg => rfl); (case hr => first | (go_simp; done) | (go_simp; rfl)); intro gb136 hg w11 hbox hb; have n0_ := Aside0.mk (blk_below (g := gb134) (o := .cells #[.int .i64 ((rd_T33 l0 a1).f0), .int .i64 ((rd_T33 l0 a1).f1), .int .i64 ((rd_T33 l0 a1).f2)] 33 (0, 0)) (by (with_reducible repeat (first | refine blk_drewN ?_ _ | refine blk_drew ?_ | refine blk_alloc ?_ _)); refine blk_put (cs := #[.int .i64 ((rd_T33 l0 a1).f0), .int .i64 ((rd_T33 l0 a1).f1), .int .i64 0]) ?_ 2 _ rfl; (with_reducible repeat (first | refine blk_drewN ?_ _ | refine blk_drew ?_ | refine blk_alloc ?_ _)); refine blk_put (cs := #[.int .i64 ((rd_T33 l0 a1).f0), .int .i64 0, .int .i64 0]) ?_ 1 _ rfl; (with_reducible repeat (first | refine blk_drewN ?_ _ | refine blk_drew ?_ | refine blk_alloc ?_ _)); refine blk_put (cs := #[.int .i64 0, .int .i64 0, .int .i64 0]) ?_ 0 _ rfl; (with_reducible repeat (first | refine blk_drewN ?_ _ | refine blk_drew ?_ | refine blk_alloc ?_ _)); exact BK134.out) hb); have n1_ := Aside0.mk (below_step (by repeat (first | (with_reducible first | exact HB.out | apply below_alloc | apply pw_below_drewN | apply below_drew1 | refine below_set ?_ GE134.out) | exact HB.out)) hb); have n2_ := Aside0.mk (hbox); have n3_ := Aside0.mk ((by rw [hg]; exact (below_size (by repeat (first | (with_reducible first | exact HB.out | apply below_alloc | apply pw_below_drewN | apply below_drew1 | refine below_set ?_ GE134.out) | exact HB.out))) : w.heap.size ≤ gb136)); have n4_ := Aside0.mk ((by rw [hg]; exact (below_size (by repeat (first | (with_reducible first | exact HB.out | apply below_alloc | apply pw_below_drewN | apply below_drew1 | refine below_set ?_ GE134.out) | exact HB.out))) : w.heap.size ≤ gb136)); have n5_ := Aside0.mk ((by rw [hg]; exact Nat.ne_of_lt (blk_lt (g := gb134) (o := .cells #[.int .i64 ((rd_T33 l0 a1).f0), .int .i64 ((rd_T33 l0 a1).f1), .int .i64 ((rd_T33 l0 a1).f2)] 33 (0, 0)) (by (with_reducible repeat (first | refine blk_drewN ?_ _ | refine blk_drew ?_ | refine blk_alloc ?_ _)); refine blk_put (cs := #[.int .i64 ((rd_T33 l0 a1).f0), .int .i64 ((rd_T33 l0 a1).f1), .int .i64 0]) ?_ 2 _ rfl; (with_reducible repeat (first | refine blk_drewN ?_ _ | refine blk_drew ?_ | refine blk_alloc ?_ _)); refine blk_put (cs := #[.int .i64 ((rd_T33 l0 a1).f0), .int .i64 0, .int .i64 0]) ?_ 1 _ rfl; (with_reducible repeat (first | refine blk_drewN ?_ _ | refine blk_drew ?_ | refine blk_alloc ?_ _)); refine blk_put (cs := #[.int .i64 0, .int .i64 0, .int .i64 0]) ?_ 0 _ rfl; (with_reducible repeat (first | refine blk_drewN ?_ _ | refine blk_drew ?_ | refine blk_alloc ?_ _)); exact BK134.out)) : gb134 ≠ gb136)); have n6_ := Aside0.mk ((by rw [hg]; exact Nat.ne_of_gt (blk_lt (g := gb134) (o := .cells #[.int .i64 ((rd_T33 l0 a1).f0), .int .i64 ((rd_T33 l0 a1).f1), .int .i64 ((rd_T33 l0 a1).f2)] 33 (0, 0)) (by (with_reducible repeat (first | refine blk_drewN ?_ _ | refine blk_drew ?_ | refine blk_alloc ?_ _)); refine blk_put (cs := #[.int .i64 ((rd_T33 l0 a1).f0), .int .i64 ((rd_T33 l0 a1).f1), .int .i64 0]) ?_ 2 _ rfl; (with_reducible repeat (first | refine blk_drewN ?_ _ | refine blk_drew ?_ | refine blk_alloc ?_ _)); refine blk_put (cs := #[.int .i64 ((rd_T33 l0 a1).f0), .int .i64 0, .int .i64 0]) ?_ 1 _ rfl; (with_reducible repeat (first | refine blk_drewN ?_ _ | refine blk_drew ?_ | refine blk_alloc ?_ _)); refine blk_put (cs := #[.int .i64 0, .int .i64 0, .int .i64 0]) ?_ 0 _ rfl; (with_reducible repeat (first | refine blk_drewN ?_ _ | refine blk_drew ?_ | refine blk_alloc ?_ _)); exact BK134.out)) : gb136 ≠ gb134)); clear BK134; clear HB; have BK134 := n0_; have HB := n1_; have BK136 := n2_; have GW136 := n3_; have GE136 := n4_; have NB134_136 := n5_; have NB136_134 := n6_; clear n0_ n1_ n2_ n3_ n4_ n5_ n6_; clear hb hbox hg; have hnb12 := NB136_134.out; have hnc12 := NB134_136.out; have hcz13_0 : w11.cell? ⟨gb136, 0, none⟩ = some (.int .i64 0) := (blk_cell BK136.out 0).trans rfl; have hcz13_1 : w11.cell? ⟨gb136, 1, none⟩ = some (.int .i64 0) := (blk_cell BK136.out 1).trans rfl; have hcz13_2 : w11.cell? ⟨gb136, 2, none⟩ = some (.int .i64 0) := (blk_cell BK136.out 2).trans rfl; have hfz13_0 := blk_frozen BK136.out 0; have hfz13_1 := blk_frozen BK136.out 1; have hfz13_2 := blk_frozen BK136.out 2))
          (try simp only [Act.put, List.setIfInBounds_toArray, List.set_cons_zero, List.set_cons_succ])
          go_cut [30] (fun v30 wc => ∃ (kq : Nat) (x30_7 : Bool), v30 = .bool x30_7 ∧ Aside0 (erewhileref35_why.j0 kq a1 a2 x30_7 ((rd_T33 l0 a1).f0) ((rd_T33 l0 a1).f1) ((rd_T33 l0 a1).f2) ((rd_T33 l0 a2).f0) ((rd_T33 l0 a2).f1) ((rd_T33 l0 a2).f2) = some r) ∧ Aside0 (kq ≤ k) ∧ Aside0 (wc.heap[gb134]? = some (.cells #[.int .i64 ((rd_T33 l0 a1).f0), .int .i64 ((rd_T33 l0 a1).f1), .int .i64 ((rd_T33 l0 a1).f2)] 33 (0, 0))) ∧ Aside0 (wc.heap[gb136]? = some (.cells #[.int .i64 ((rd_T33 l0 a2).f0), .int .i64 ((rd_T33 l0 a2).f1), .int .i64 ((rd_T33 l0 a2).f2)] 33 (0, 0))) ∧ Aside0 (Below w.heap.size w wc))
          case first =>
            have H := HC8.out
            clear HC8
            replace H := Option.bind_eq_some_iff.mp H
            obtain ⟨t137, A140, H⟩ := H
            replace H : (if t137 = true then (if ((rd_T33 l0 a2).f0) = 4 then (erewhileref35_why.j0 k a1 a2 (decide (((rd_T33 l0 a2).f2) < ((rd_T33 l0 a1).f2))) ((rd_T33 l0 a1).f0) ((rd_T33 l0 a1).f1) ((rd_T33 l0 a1).f2) ((rd_T33 l0 a2).f0) ((rd_T33 l0 a2).f1) ((rd_T33 l0 a2).f2)) else (erewhileref35_why.j0 k a1 a2 false ((rd_T33 l0 a1).f0) ((rd_T33 l0 a1).f1) ((rd_T33 l0 a1).f2) ((rd_T33 l0 a2).f0) ((rd_T33 l0 a2).f1) ((rd_T33 l0 a2).f2))) else (erewhileref35_why.j0 k a1 a2 false ((rd_T33 l0 a1).f0) ((rd_T33 l0 a1).f1) ((rd_T33 l0 a1).f2) ((rd_T33 l0 a2).f0) ((rd_T33 l0 a2).f1) ((rd_T33 l0 a2).f2))) = some r := H
            have A14 := Aside0.mk A140
            clear A140
            by_cases c15 : t137 = true
            · subst c15
              have H1 : (if ((rd_T33 l0 a2).f0) = 4 then (erewhileref35_why.j0 k a1 a2 (decide (((rd_T33 l0 a2).f2) < ((rd_T33 l0 a1).f2))) ((rd_T33 l0 a1).f0) ((rd_T33 l0 a1).f1) ((rd_T33 l0 a1).f2) ((rd_T33 l0 a2).f0) ((rd_T33 l0 a2).f1) ((rd_T33 l0 a2).f2)) else (erewhileref35_why.j0 k a1 a2 false ((rd_T33 l0 a1).f0) ((rd_T33 l0 a1).f1) ((rd_T33 l0 a1).f2) ((rd_T33 l0 a2).f0) ((rd_T33 l0 a2).f1) ((rd_T33 l0 a2).f2))) = some r := by rw [if_pos rfl] at H; exact H
              clear H
              have H := H1
              clear H1
              by_cases c16 : ((rd_T33 l0 a2).f0) = 4
              · rw [if_pos c16] at H
                have c16b0 : (((rd_T33 l0 a2).f0) == 4) = true := beq_iff_eq.mpr c16
                have c16b1 : (((rd_T33 l0 a2).f0) != 4) = false := bne_eq_false_iff_eq.mpr c16
                clear c16
                (first | rw [c16b0] | (simp only [i64_w, i32_w]; rw [c16b0]) | skip)
                have H' := Aside0.mk H
                clear H
                have hnb17 := NB134_136.out
                have hnc17 := NB136_134.out
                have hcz18_0 : w11.cell? ⟨gb134, 0, none⟩ = some (.int .i64 ((rd_T33 l0 a1).f0)) := (blk_cell BK134.out 0).trans rfl
                have hcz18_1 : w11.cell? ⟨gb134, 1, none⟩ = some (.int .i64 ((rd_T33 l0 a1).f1)) := (blk_cell BK134.out 1).trans rfl
                have hcz18_2 : w11.cell? ⟨gb134, 2, none⟩ = some (.int .i64 ((rd_T33 l0 a1).f2)) := (blk_cell BK134.out 2).trans rfl
                have hfz18_0 := blk_frozen BK134.out 0
                have hfz18_1 := blk_frozen BK134.out 1
                have hfz18_2 := blk_frozen BK134.out 2
                go_wp2_with (first | ((with_reducible refine gate_callee (f := 17) rfl ?_); refine goesL_ (some 18) rfl rfl Try.func17 (by kernel_rfl) rfl #[.agg #[.int .i64 ((rd_T33 l0 a1).f0), .int .i64 ((rd_T33 l0 a1).f1), .int .i64 ((rd_T33 l0 a1).f2)]] rfl (by (try simp only [List.map_toArray, List.map_cons, List.map_nil]); first | done | rfl | (simp only [List.length_drop, List.length_take]; rfl)) ?_; (with_reducible refine (erewhileref35_Keeps.calls ((rd_T33 l0 a1).f0) ((rd_T33 l0 a1).f1) ((rd_T33 l0 a1).f2) true _ A14.out).mono ?_); rintro e w19 ⟨rfl, hb⟩; refine ⟨_, rfl, ?_⟩; have n0_ := Aside0.mk (blk_below (g := gb134) (o := .cells #[.int .i64 ((rd_T33 l0 a1).f0), .int .i64 ((rd_T33 l0 a1).f1), .int .i64 ((rd_T33 l0 a1).f2)] 33 (0, 0)) (by (with_reducible repeat (first | refine blk_drewN ?_ _ | refine blk_drew ?_ | refine blk_alloc ?_ _)); refine blk_far ?_ NB134_136.out _; (with_reducible repeat (first | refine blk_drewN ?_ _ | refine blk_drew ?_ | refine blk_alloc ?_ _)); refine blk_far ?_ NB134_136.out _; (with_reducible repeat (first | refine blk_drewN ?_ _ | refine blk_drew ?_ | refine blk_alloc ?_ _)); refine blk_far ?_ NB134_136.out _; (with_reducible repeat (first | refine blk_drewN ?_ _ | refine blk_drew ?_ | refine blk_alloc ?_ _)); exact BK134.out) hb); have n1_ := Aside0.mk (blk_below (g := gb136) (o := .cells #[.int .i64 ((rd_T33 l0 a2).f0), .int .i64 ((rd_T33 l0 a2).f1), .int .i64 ((rd_T33 l0 a2).f2)] 33 (0, 0)) (by (with_reducible repeat (first | refine blk_drewN ?_ _ | refine blk_drew ?_ | refine blk_alloc ?_ _)); refine blk_put (cs := #[.int .i64 ((rd_T33 l0 a2).f0), .int .i64 ((rd_T33 l0 a2).f1), .int .i64 0]) ?_ 2 _ rfl; (with_reducible repeat (first | refine blk_drewN ?_ _ | refine blk_drew ?_ | refine blk_alloc ?_ _)); refine blk_put (cs := #[.int .i64 ((rd_T33 l0 a2).f0), .int .i64 0, .int .i64 0]) ?_ 1 _ rfl; (with_reducible repeat (first | refine blk_drewN ?_ _ | refine blk_drew ?_ | refine blk_alloc ?_ _)); refine blk_put (cs := #[.int .i64 0, .int .i64 0, .int .i64 0]) ?_ 0 _ rfl; (with_reducible repeat (first | refine blk_drewN ?_ _ | refine blk_drew ?_ | refine blk_alloc ?_ _)); exact BK136.out) hb); have n2_ := Aside0.mk (below_step (by repeat (first | (with_reducible first | exact HB.out | apply below_alloc | apply pw_below_drewN | apply below_drew1 | refine below_set ?_ GE134.out | refine below_set ?_ GE136.out) | exact HB.out)) hb); clear BK134; clear BK136; clear HB; have BK134 := n0_; have BK136 := n1_; have HB := n2_; clear n0_ n1_ n2_; (try clear hb); (try clear hb2); (try clear hk); (try clear hi); have hcz20_0 : w19.cell? ⟨gb136, 0, none⟩ = some (.int .i64 ((rd_T33 l0 a2).f0)) := (blk_cell BK136.out 0).trans rfl; have hcz20_1 : w19.cell? ⟨gb136, 1, none⟩ = some (.int .i64 ((rd_T33 l0 a2).f1)) := (blk_cell BK136.out 1).trans rfl; have hcz20_2 : w19.cell? ⟨gb136, 2, none⟩ = some (.int .i64 ((rd_T33 l0 a2).f2)) := (blk_cell BK136.out 2).trans rfl; have hfz20_0 := blk_frozen BK136.out 0; have hfz20_1 := blk_frozen BK136.out 1; have hfz20_2 := blk_frozen BK136.out 2; have hcz21_0 : w19.cell? ⟨gb134, 0, none⟩ = some (.int .i64 ((rd_T33 l0 a1).f0)) := (blk_cell BK134.out 0).trans rfl; have hcz21_1 : w19.cell? ⟨gb134, 1, none⟩ = some (.int .i64 ((rd_T33 l0 a1).f1)) := (blk_cell BK134.out 1).trans rfl; have hcz21_2 : w19.cell? ⟨gb134, 2, none⟩ = some (.int .i64 ((rd_T33 l0 a1).f2)) := (blk_cell BK134.out 2).trans rfl; have hfz21_0 := blk_frozen BK134.out 0; have hfz21_1 := blk_frozen BK134.out 1; have hfz21_2 := blk_frozen BK134.out 2))
                go_meet
                case rel => exact ⟨_, (decide (((rd_T33 l0 a2).f2) < ((rd_T33 l0 a1).f2))), (by first | rfl | (simp; done) | (simp [*]; done)), H', ⟨by first | omega | exact Nat.le_refl _⟩, ⟨by (with_reducible repeat (first | refine blk_drewN ?_ _ | refine blk_drew ?_ | refine blk_alloc ?_ _)); exact BK134.out⟩, ⟨by (with_reducible repeat (first | refine blk_drewN ?_ _ | refine blk_drew ?_ | refine blk_alloc ?_ _)); exact BK136.out⟩, ⟨by repeat (first | (with_reducible first | exact HB.out | apply below_alloc | apply pw_below_drewN | apply below_drew1 | refine below_set ?_ GE134.out | refine below_set ?_ GE136.out) | exact HB.out)⟩⟩
              · rw [if_neg c16] at H
                have c16b0 : (((rd_T33 l0 a2).f0) == 4) = false := beq_eq_false_iff_ne.mpr c16
                have c16b1 : (((rd_T33 l0 a2).f0) != 4) = true := bne_iff_ne.mpr c16
                (first | rw [c16b0] | (simp only [i64_w, i32_w]; rw [c16b0]) | skip)
                have H' := Aside0.mk H
                clear H
                have hnb22 := NB134_136.out
                have hnc22 := NB136_134.out
                have hcz23_0 : w11.cell? ⟨gb134, 0, none⟩ = some (.int .i64 ((rd_T33 l0 a1).f0)) := (blk_cell BK134.out 0).trans rfl
                have hcz23_1 : w11.cell? ⟨gb134, 1, none⟩ = some (.int .i64 ((rd_T33 l0 a1).f1)) := (blk_cell BK134.out 1).trans rfl
                have hcz23_2 : w11.cell? ⟨gb134, 2, none⟩ = some (.int .i64 ((rd_T33 l0 a1).f2)) := (blk_cell BK134.out 2).trans rfl
                have hfz23_0 := blk_frozen BK134.out 0
                have hfz23_1 := blk_frozen BK134.out 1
                have hfz23_2 := blk_frozen BK134.out 2
                go_wp2_with (first | ((with_reducible refine gate_callee (f := 17) rfl ?_); refine goesL_ (some 18) rfl rfl Try.func17 (by kernel_rfl) rfl #[.agg #[.int .i64 ((rd_T33 l0 a1).f0), .int .i64 ((rd_T33 l0 a1).f1), .int .i64 ((rd_T33 l0 a1).f2)]] rfl (by (try simp only [List.map_toArray, List.map_cons, List.map_nil]); first | done | rfl | (simp only [List.length_drop, List.length_take]; rfl)) ?_; (with_reducible refine (erewhileref35_Keeps.calls ((rd_T33 l0 a1).f0) ((rd_T33 l0 a1).f1) ((rd_T33 l0 a1).f2) true _ A14.out).mono ?_); rintro e w24 ⟨rfl, hb⟩; refine ⟨_, rfl, ?_⟩; have n0_ := Aside0.mk (blk_below (g := gb134) (o := .cells #[.int .i64 ((rd_T33 l0 a1).f0), .int .i64 ((rd_T33 l0 a1).f1), .int .i64 ((rd_T33 l0 a1).f2)] 33 (0, 0)) (by (with_reducible repeat (first | refine blk_drewN ?_ _ | refine blk_drew ?_ | refine blk_alloc ?_ _)); refine blk_far ?_ NB134_136.out _; (with_reducible repeat (first | refine blk_drewN ?_ _ | refine blk_drew ?_ | refine blk_alloc ?_ _)); refine blk_far ?_ NB134_136.out _; (with_reducible repeat (first | refine blk_drewN ?_ _ | refine blk_drew ?_ | refine blk_alloc ?_ _)); refine blk_far ?_ NB134_136.out _; (with_reducible repeat (first | refine blk_drewN ?_ _ | refine blk_drew ?_ | refine blk_alloc ?_ _)); exact BK134.out) hb); have n1_ := Aside0.mk (blk_below (g := gb136) (o := .cells #[.int .i64 ((rd_T33 l0 a2).f0), .int .i64 ((rd_T33 l0 a2).f1), .int .i64 ((rd_T33 l0 a2).f2)] 33 (0, 0)) (by (with_reducible repeat (first | refine blk_drewN ?_ _ | refine blk_drew ?_ | refine blk_alloc ?_ _)); refine blk_put (cs := #[.int .i64 ((rd_T33 l0 a2).f0), .int .i64 ((rd_T33 l0 a2).f1), .int .i64 0]) ?_ 2 _ rfl; (with_reducible repeat (first | refine blk_drewN ?_ _ | refine blk_drew ?_ | refine blk_alloc ?_ _)); refine blk_put (cs := #[.int .i64 ((rd_T33 l0 a2).f0), .int .i64 0, .int .i64 0]) ?_ 1 _ rfl; (with_reducible repeat (first | refine blk_drewN ?_ _ | refine blk_drew ?_ | refine blk_alloc ?_ _)); refine blk_put (cs := #[.int .i64 0, .int .i64 0, .int .i64 0]) ?_ 0 _ rfl; (with_reducible repeat (first | refine blk_drewN ?_ _ | refine blk_drew ?_ | refine blk_alloc ?_ _)); exact BK136.out) hb); have n2_ := Aside0.mk (below_step (by repeat (first | (with_reducible first | exact HB.out | apply below_alloc | apply pw_below_drewN | apply below_drew1 | refine below_set ?_ GE134.out | refine below_set ?_ GE136.out) | exact HB.out)) hb); clear BK134; clear BK136; clear HB; have BK134 := n0_; have BK136 := n1_; have HB := n2_; clear n0_ n1_ n2_; (try clear hb); (try clear hb2); (try clear hk); (try clear hi); have hcz25_0 : w24.cell? ⟨gb136, 0, none⟩ = some (.int .i64 ((rd_T33 l0 a2).f0)) := (blk_cell BK136.out 0).trans rfl; have hcz25_1 : w24.cell? ⟨gb136, 1, none⟩ = some (.int .i64 ((rd_T33 l0 a2).f1)) := (blk_cell BK136.out 1).trans rfl; have hcz25_2 : w24.cell? ⟨gb136, 2, none⟩ = some (.int .i64 ((rd_T33 l0 a2).f2)) := (blk_cell BK136.out 2).trans rfl; have hfz25_0 := blk_frozen BK136.out 0; have hfz25_1 := blk_frozen BK136.out 1; have hfz25_2 := blk_frozen BK136.out 2))
                go_meet
                case rel => exact ⟨_, (false), (by first | rfl | (simp; done) | (simp [*]; done)), H', ⟨by first | omega | exact Nat.le_refl _⟩, ⟨by (with_reducible repeat (first | refine blk_drewN ?_ _ | refine blk_drew ?_ | refine blk_alloc ?_ _)); exact BK134.out⟩, ⟨by (with_reducible repeat (first | refine blk_drewN ?_ _ | refine blk_drew ?_ | refine blk_alloc ?_ _)); exact BK136.out⟩, ⟨by repeat (first | (with_reducible first | exact HB.out | apply below_alloc | apply pw_below_drewN | apply below_drew1 | refine below_set ?_ GE134.out | refine below_set ?_ GE136.out) | exact HB.out)⟩⟩
            · replace c15 := Bool.eq_false_iff.mpr c15
              subst c15
              have H1 : (erewhileref35_why.j0 k a1 a2 false ((rd_T33 l0 a1).f0) ((rd_T33 l0 a1).f1) ((rd_T33 l0 a1).f2) ((rd_T33 l0 a2).f0) ((rd_T33 l0 a2).f1) ((rd_T33 l0 a2).f2)) = some r := by rw [if_neg (show ¬ (false = true) by decide)] at H; exact H
              clear H
              have H := H1
              clear H1
              have H' := Aside0.mk H
              clear H
              have hnb26 := NB134_136.out
              have hnc26 := NB136_134.out
              have hcz27_0 : w11.cell? ⟨gb134, 0, none⟩ = some (.int .i64 ((rd_T33 l0 a1).f0)) := (blk_cell BK134.out 0).trans rfl
              have hcz27_1 : w11.cell? ⟨gb134, 1, none⟩ = some (.int .i64 ((rd_T33 l0 a1).f1)) := (blk_cell BK134.out 1).trans rfl
              have hcz27_2 : w11.cell? ⟨gb134, 2, none⟩ = some (.int .i64 ((rd_T33 l0 a1).f2)) := (blk_cell BK134.out 2).trans rfl
              have hfz27_0 := blk_frozen BK134.out 0
              have hfz27_1 := blk_frozen BK134.out 1
              have hfz27_2 := blk_frozen BK134.out 2
              go_wp2_with (first | ((with_reducible refine gate_callee (f := 17) rfl ?_); refine goesL_ (some 18) rfl rfl Try.func17 (by kernel_rfl) rfl #[.agg #[.int .i64 ((rd_T33 l0 a1).f0), .int .i64 ((rd_T33 l0 a1).f1), .int .i64 ((rd_T33 l0 a1).f2)]] rfl (by (try simp only [List.map_toArray, List.map_cons, List.map_nil]); first | done | rfl | (simp only [List.length_drop, List.length_take]; rfl)) ?_; (with_reducible refine (erewhileref35_Keeps.calls ((rd_T33 l0 a1).f0) ((rd_T33 l0 a1).f1) ((rd_T33 l0 a1).f2) false _ A14.out).mono ?_); rintro e w28 ⟨rfl, hb⟩; refine ⟨_, rfl, ?_⟩; have n0_ := Aside0.mk (blk_below (g := gb134) (o := .cells #[.int .i64 ((rd_T33 l0 a1).f0), .int .i64 ((rd_T33 l0 a1).f1), .int .i64 ((rd_T33 l0 a1).f2)] 33 (0, 0)) (by (with_reducible repeat (first | refine blk_drewN ?_ _ | refine blk_drew ?_ | refine blk_alloc ?_ _)); refine blk_far ?_ NB134_136.out _; (with_reducible repeat (first | refine blk_drewN ?_ _ | refine blk_drew ?_ | refine blk_alloc ?_ _)); refine blk_far ?_ NB134_136.out _; (with_reducible repeat (first | refine blk_drewN ?_ _ | refine blk_drew ?_ | refine blk_alloc ?_ _)); refine blk_far ?_ NB134_136.out _; (with_reducible repeat (first | refine blk_drewN ?_ _ | refine blk_drew ?_ | refine blk_alloc ?_ _)); exact BK134.out) hb); have n1_ := Aside0.mk (blk_below (g := gb136) (o := .cells #[.int .i64 ((rd_T33 l0 a2).f0), .int .i64 ((rd_T33 l0 a2).f1), .int .i64 ((rd_T33 l0 a2).f2)] 33 (0, 0)) (by (with_reducible repeat (first | refine blk_drewN ?_ _ | refine blk_drew ?_ | refine blk_alloc ?_ _)); refine blk_put (cs := #[.int .i64 ((rd_T33 l0 a2).f0), .int .i64 ((rd_T33 l0 a2).f1), .int .i64 0]) ?_ 2 _ rfl; (with_reducible repeat (first | refine blk_drewN ?_ _ | refine blk_drew ?_ | refine blk_alloc ?_ _)); refine blk_put (cs := #[.int .i64 ((rd_T33 l0 a2).f0), .int .i64 0, .int .i64 0]) ?_ 1 _ rfl; (with_reducible repeat (first | refine blk_drewN ?_ _ | refine blk_drew ?_ | refine blk_alloc ?_ _)); refine blk_put (cs := #[.int .i64 0, .int .i64 0, .int .i64 0]) ?_ 0 _ rfl; (with_reducible repeat (first | refine blk_drewN ?_ _ | refine blk_drew ?_ | refine blk_alloc ?_ _)); exact BK136.out) hb); have n2_ := Aside0.mk (below_step (by repeat (first | (with_reducible first | exact HB.out | apply below_alloc | apply pw_below_drewN | apply below_drew1 | refine below_set ?_ GE134.out | refine below_set ?_ GE136.out) | exact HB.out)) hb); clear BK134; clear BK136; clear HB; have BK134 := n0_; have BK136 := n1_; have HB := n2_; clear n0_ n1_ n2_; (try clear hb); (try clear hb2); (try clear hk); (try clear hi)))
              go_meet
              case rel => exact ⟨_, (false), (by first | rfl | (simp; done) | (simp [*]; done)), H', ⟨by first | omega | exact Nat.le_refl _⟩, ⟨by (with_reducible repeat (first | refine blk_drewN ?_ _ | refine blk_drew ?_ | refine blk_alloc ?_ _)); exact BK134.out⟩, ⟨by (with_reducible repeat (first | refine blk_drewN ?_ _ | refine blk_drew ?_ | refine blk_alloc ?_ _)); exact BK136.out⟩, ⟨by repeat (first | (with_reducible first | exact HB.out | apply below_alloc | apply pw_below_drewN | apply below_drew1 | refine below_set ?_ GE134.out | refine below_set ?_ GE136.out) | exact HB.out)⟩⟩
          case rest =>
            clear HC8
            try clear c1
            try clear p1
            try clear q1
            try clear hx1
            try clear c2
            try clear p2
            try clear c4
            try clear c4b0
            try clear c5
            try clear c5b0
            try clear c6
            try clear c6b0
            try clear c7
            try clear c7b0
            try clear c12
            try clear p13
            try clear q13
            try clear hx13
            try clear c15
            try clear c16
            try clear c16b0
            try clear c16b1
            try clear c17
            try clear c19
            try clear c22
            try clear c26
            try clear hcz10_0
            try clear hcz10_1
            try clear hcz10_2
            try clear hcz13_0
            try clear hcz13_1
            try clear hcz13_2
            try clear hcz18_0
            try clear hcz18_1
            try clear hcz18_2
            try clear hcz20_0
            try clear hcz20_1
            try clear hcz20_2
            try clear hcz21_0
            try clear hcz21_1
            try clear hcz21_2
            try clear hcz23_0
            try clear hcz23_1
            try clear hcz23_2
            try clear hcz25_0
            try clear hcz25_1
            try clear hcz25_2
            try clear hcz27_0
            try clear hcz27_1
            try clear hcz27_2
            try clear hfz10_0
            try clear hfz10_1
            try clear hfz10_2
            try clear hfz13_0
            try clear hfz13_1
            try clear hfz13_2
            try clear hfz18_0
            try clear hfz18_1
            try clear hfz18_2
            try clear hfz20_0
            try clear hfz20_1
            try clear hfz20_2
            try clear hfz21_0
            try clear hfz21_1
            try clear hfz21_2
            try clear hfz23_0
            try clear hfz23_1
            try clear hfz23_2
            try clear hfz25_0
            try clear hfz25_1
            try clear hfz25_2
            try clear hfz27_0
            try clear hfz27_1
            try clear hfz27_2
            try clear hx133_0
            try clear hx133_1
            try clear hx133_2
            try clear hx135_0
            try clear hx135_1
            try clear hx135_2
            try clear p133
            try clear p135
            try clear q133
            try clear q135
            obtain ⟨kq, x30_7, rfl, HA, HJ7, BK134, BK136, HB⟩ := hcut
            cases kq with
            | zero => exact absurd HA.out (by simp [erewhileref35_why.j0])
            | succ kj7 =>
              have H := HA.out
              clear HA
              simp only [erewhileref35_why.j0] at H
              by_cases c29 : x30_7 = true
              · subst c29
                have H1 : (some 1) = some r := by rw [if_pos rfl] at H; exact H
                clear H
                have H := H1
                clear H1
                obtain rfl := Option.some.inj H
                go_wp2
                go_ret
                exact ⟨by first | rfl | (simp [errW_none, errW_some] <;> rfl) | (simp [*, errW_none, errW_some] <;> rfl), by repeat (first | (with_reducible first | exact HB.out | apply below_alloc | apply pw_below_drewN | apply below_drew1 | refine below_set ?_ GE134.out | refine below_set ?_ GE136.out) | exact HB.out)⟩
              · replace c29 := Bool.eq_false_iff.mpr c29
                subst c29
                have H1 : (if ((rd_T33 l0 a1).f0) = 4 then (if ((rd_T33 l0 a2).f0) = 4 then (erewhileref35_why.j1 kj7 a1 a2 (decide (a1 > a2)) ((rd_T33 l0 a1).f0) ((rd_T33 l0 a1).f1) ((rd_T33 l0 a1).f2) ((rd_T33 l0 a2).f0) ((rd_T33 l0 a2).f1) ((rd_T33 l0 a2).f2)) else (erewhileref35_why.j1 kj7 a1 a2 false ((rd_T33 l0 a1).f0) ((rd_T33 l0 a1).f1) ((rd_T33 l0 a1).f2) ((rd_T33 l0 a2).f0) ((rd_T33 l0 a2).f1) ((rd_T33 l0 a2).f2))) else (erewhileref35_why.j1 kj7 a1 a2 false ((rd_T33 l0 a1).f0) ((rd_T33 l0 a1).f1) ((rd_T33 l0 a1).f2) ((rd_T33 l0 a2).f0) ((rd_T33 l0 a2).f1) ((rd_T33 l0 a2).f2))) = some r := by rw [if_neg (show ¬ (false = true) by decide)] at H; exact H
                clear H
                have H := H1
                clear H1
                have HC30 := Aside0.mk H
                clear H
                go_upto_region 5 with (fail)
                go_cut [43] (fun v43 wc => ∃ (kq : Nat) (x43_29 : Bool), v43 = .bool x43_29 ∧ Aside0 (erewhileref35_why.j1 kq a1 a2 x43_29 ((rd_T33 l0 a1).f0) ((rd_T33 l0 a1).f1) ((rd_T33 l0 a1).f2) ((rd_T33 l0 a2).f0) ((rd_T33 l0 a2).f1) ((rd_T33 l0 a2).f2) = some r) ∧ Aside0 (kq ≤ kj7) ∧ Aside0 (wc.heap[gb134]? = some (.cells #[.int .i64 ((rd_T33 l0 a1).f0), .int .i64 ((rd_T33 l0 a1).f1), .int .i64 ((rd_T33 l0 a1).f2)] 33 (0, 0))) ∧ Aside0 (wc.heap[gb136]? = some (.cells #[.int .i64 ((rd_T33 l0 a2).f0), .int .i64 ((rd_T33 l0 a2).f1), .int .i64 ((rd_T33 l0 a2).f2)] 33 (0, 0))) ∧ Aside0 (Below w.heap.size w wc))
                case first =>
                  have H := HC30.out
                  clear HC30
                  by_cases c31 : ((rd_T33 l0 a1).f0) = 4
                  · rw [if_pos c31] at H
                    have c31b0 : (((rd_T33 l0 a1).f0) == 4) = true := beq_iff_eq.mpr c31
                    have c31b1 : (((rd_T33 l0 a1).f0) != 4) = false := bne_eq_false_iff_eq.mpr c31
                    clear c31
                    (first | rw [c31b0] | (simp only [i64_w, i32_w]; rw [c31b0]) | skip)
                    by_cases c32 : ((rd_T33 l0 a2).f0) = 4
                    · rw [if_pos c32] at H
                      have c32b0 : (((rd_T33 l0 a2).f0) == 4) = true := beq_iff_eq.mpr c32
                      have c32b1 : (((rd_T33 l0 a2).f0) != 4) = false := bne_eq_false_iff_eq.mpr c32
                      clear c32
                      have H' := Aside0.mk H
                      clear H
                      have hnb33 := NB134_136.out
                      have hnc33 := NB136_134.out
                      have hcz34_0 : wc.cell? ⟨gb134, 0, none⟩ = some (.int .i64 ((rd_T33 l0 a1).f0)) := (blk_cell BK134.out 0).trans rfl
                      have hcz34_1 : wc.cell? ⟨gb134, 1, none⟩ = some (.int .i64 ((rd_T33 l0 a1).f1)) := (blk_cell BK134.out 1).trans rfl
                      have hcz34_2 : wc.cell? ⟨gb134, 2, none⟩ = some (.int .i64 ((rd_T33 l0 a1).f2)) := (blk_cell BK134.out 2).trans rfl
                      have hfz34_0 := blk_frozen BK134.out 0
                      have hfz34_1 := blk_frozen BK134.out 1
                      have hfz34_2 := blk_frozen BK134.out 2
                      have hcz35_0 : wc.cell? ⟨gb136, 0, none⟩ = some (.int .i64 ((rd_T33 l0 a2).f0)) := (blk_cell BK136.out 0).trans rfl
                      have hcz35_1 : wc.cell? ⟨gb136, 1, none⟩ = some (.int .i64 ((rd_T33 l0 a2).f1)) := (blk_cell BK136.out 1).trans rfl
                      have hcz35_2 : wc.cell? ⟨gb136, 2, none⟩ = some (.int .i64 ((rd_T33 l0 a2).f2)) := (blk_cell BK136.out 2).trans rfl
                      have hfz35_0 := blk_frozen BK136.out 0
                      have hfz35_1 := blk_frozen BK136.out 1
                      have hfz35_2 := blk_frozen BK136.out 2
                      go_wp2
                      go_meet
                      case rel => exact ⟨_, (decide (a1 > a2)), (by first | rfl | (simp; done) | (simp [*]; done)), H', ⟨by have := HJ7.out; first | omega | exact Nat.le_refl _⟩, ⟨by (with_reducible repeat (first | refine blk_drewN ?_ _ | refine blk_drew ?_ | refine blk_alloc ?_ _)); exact BK134.out⟩, ⟨by (with_reducible repeat (first | refine blk_drewN ?_ _ | refine blk_drew ?_ | refine blk_alloc ?_ _)); exact BK136.out⟩, ⟨by repeat (first | (with_reducible first | exact HB.out | apply below_alloc | apply pw_below_drewN | apply below_drew1 | refine below_set ?_ GE134.out | refine below_set ?_ GE136.out) | exact HB.out)⟩⟩
                    · rw [if_neg c32] at H
                      have c32b0 : (((rd_T33 l0 a2).f0) == 4) = false := beq_eq_false_iff_ne.mpr c32
                      have c32b1 : (((rd_T33 l0 a2).f0) != 4) = true := bne_iff_ne.mpr c32
                      have H' := Aside0.mk H
                      clear H
                      have hnb36 := NB134_136.out
                      have hnc36 := NB136_134.out
                      have hcz37_0 : wc.cell? ⟨gb134, 0, none⟩ = some (.int .i64 ((rd_T33 l0 a1).f0)) := (blk_cell BK134.out 0).trans rfl
                      have hcz37_1 : wc.cell? ⟨gb134, 1, none⟩ = some (.int .i64 ((rd_T33 l0 a1).f1)) := (blk_cell BK134.out 1).trans rfl
                      have hcz37_2 : wc.cell? ⟨gb134, 2, none⟩ = some (.int .i64 ((rd_T33 l0 a1).f2)) := (blk_cell BK134.out 2).trans rfl
                      have hfz37_0 := blk_frozen BK134.out 0
                      have hfz37_1 := blk_frozen BK134.out 1
                      have hfz37_2 := blk_frozen BK134.out 2
                      have hcz38_0 : wc.cell? ⟨gb136, 0, none⟩ = some (.int .i64 ((rd_T33 l0 a2).f0)) := (blk_cell BK136.out 0).trans rfl
                      have hcz38_1 : wc.cell? ⟨gb136, 1, none⟩ = some (.int .i64 ((rd_T33 l0 a2).f1)) := (blk_cell BK136.out 1).trans rfl
                      have hcz38_2 : wc.cell? ⟨gb136, 2, none⟩ = some (.int .i64 ((rd_T33 l0 a2).f2)) := (blk_cell BK136.out 2).trans rfl
                      have hfz38_0 := blk_frozen BK136.out 0
                      have hfz38_1 := blk_frozen BK136.out 1
                      have hfz38_2 := blk_frozen BK136.out 2
                      go_wp2
                      go_meet
                      case rel => exact ⟨_, (false), (by first | rfl | (simp; done) | (simp [*]; done)), H', ⟨by have := HJ7.out; first | omega | exact Nat.le_refl _⟩, ⟨by (with_reducible repeat (first | refine blk_drewN ?_ _ | refine blk_drew ?_ | refine blk_alloc ?_ _)); exact BK134.out⟩, ⟨by (with_reducible repeat (first | refine blk_drewN ?_ _ | refine blk_drew ?_ | refine blk_alloc ?_ _)); exact BK136.out⟩, ⟨by repeat (first | (with_reducible first | exact HB.out | apply below_alloc | apply pw_below_drewN | apply below_drew1 | refine below_set ?_ GE134.out | refine below_set ?_ GE136.out) | exact HB.out)⟩⟩
                  · rw [if_neg c31] at H
                    have c31b0 : (((rd_T33 l0 a1).f0) == 4) = false := beq_eq_false_iff_ne.mpr c31
                    have c31b1 : (((rd_T33 l0 a1).f0) != 4) = true := bne_iff_ne.mpr c31
                    (first | rw [c31b0] | (simp only [i64_w, i32_w]; rw [c31b0]) | skip)
                    have H' := Aside0.mk H
                    clear H
                    have hnb39 := NB134_136.out
                    have hnc39 := NB136_134.out
                    have hcz40_0 : wc.cell? ⟨gb134, 0, none⟩ = some (.int .i64 ((rd_T33 l0 a1).f0)) := (blk_cell BK134.out 0).trans rfl
                    have hcz40_1 : wc.cell? ⟨gb134, 1, none⟩ = some (.int .i64 ((rd_T33 l0 a1).f1)) := (blk_cell BK134.out 1).trans rfl
                    have hcz40_2 : wc.cell? ⟨gb134, 2, none⟩ = some (.int .i64 ((rd_T33 l0 a1).f2)) := (blk_cell BK134.out 2).trans rfl
                    have hfz40_0 := blk_frozen BK134.out 0
                    have hfz40_1 := blk_frozen BK134.out 1
                    have hfz40_2 := blk_frozen BK134.out 2
                    go_wp2
                    go_meet
                    case rel => exact ⟨_, (false), (by first | rfl | (simp; done) | (simp [*]; done)), H', ⟨by have := HJ7.out; first | omega | exact Nat.le_refl _⟩, ⟨by (with_reducible repeat (first | refine blk_drewN ?_ _ | refine blk_drew ?_ | refine blk_alloc ?_ _)); exact BK134.out⟩, ⟨by (with_reducible repeat (first | refine blk_drewN ?_ _ | refine blk_drew ?_ | refine blk_alloc ?_ _)); exact BK136.out⟩, ⟨by repeat (first | (with_reducible first | exact HB.out | apply below_alloc | apply pw_below_drewN | apply below_drew1 | refine below_set ?_ GE134.out | refine below_set ?_ GE136.out) | exact HB.out)⟩⟩
                case rest =>
                  clear HC30
                  try clear c1
                  try clear p1
                  try clear q1
                  try clear hx1
                  try clear c2
                  try clear p2
                  try clear c3
                  try clear c4
                  try clear c4b0
                  try clear c5
                  try clear c5b0
                  try clear c6
                  try clear c6b0
                  try clear c7
                  try clear c7b0
                  try clear c12
                  try clear p13
                  try clear q13
                  try clear hx13
                  try clear c15
                  try clear c16
                  try clear c16b0
                  try clear c16b1
                  try clear c17
                  try clear c19
                  try clear c22
                  try clear c26
                  try clear c29
                  try clear c31
                  try clear c31b0
                  try clear c31b1
                  try clear c32
                  try clear c32b0
                  try clear c32b1
                  try clear c33
                  try clear c36
                  try clear c39
                  try clear hcz10_0
                  try clear hcz10_1
                  try clear hcz10_2
                  try clear hcz13_0
                  try clear hcz13_1
                  try clear hcz13_2
                  try clear hcz18_0
                  try clear hcz18_1
                  try clear hcz18_2
                  try clear hcz20_0
                  try clear hcz20_1
                  try clear hcz20_2
                  try clear hcz21_0
                  try clear hcz21_1
                  try clear hcz21_2
                  try clear hcz23_0
                  try clear hcz23_1
                  try clear hcz23_2
                  try clear hcz25_0
                  try clear hcz25_1
                  try clear hcz25_2
                  try clear hcz27_0
                  try clear hcz27_1
                  try clear hcz27_2
                  try clear hcz34_0
                  try clear hcz34_1
                  try clear hcz34_2
                  try clear hcz35_0
                  try clear hcz35_1
                  try clear hcz35_2
                  try clear hcz37_0
                  try clear hcz37_1
                  try clear hcz37_2
                  try clear hcz38_0
                  try clear hcz38_1
                  try clear hcz38_2
                  try clear hcz40_0
                  try clear hcz40_1
                  try clear hcz40_2
                  try clear hfz10_0
                  try clear hfz10_1
                  try clear hfz10_2
                  try clear hfz13_0
                  try clear hfz13_1
                  try clear hfz13_2
                  try clear hfz18_0
                  try clear hfz18_1
                  try clear hfz18_2
                  try clear hfz20_0
                  try clear hfz20_1
                  try clear hfz20_2
                  try clear hfz21_0
                  try clear hfz21_1
                  try clear hfz21_2
                  try clear hfz23_0
                  try clear hfz23_1
                  try clear hfz23_2
                  try clear hfz25_0
                  try clear hfz25_1
                  try clear hfz25_2
                  try clear hfz27_0
                  try clear hfz27_1
                  try clear hfz27_2
                  try clear hfz34_0
                  try clear hfz34_1
                  try clear hfz34_2
                  try clear hfz35_0
                  try clear hfz35_1
                  try clear hfz35_2
                  try clear hfz37_0
                  try clear hfz37_1
                  try clear hfz37_2
                  try clear hfz38_0
                  try clear hfz38_1
                  try clear hfz38_2
                  try clear hfz40_0
                  try clear hfz40_1
                  try clear hfz40_2
                  try clear hx133_0
                  try clear hx133_1
                  try clear hx133_2
                  try clear hx135_0
                  try clear hx135_1
                  try clear hx135_2
                  try clear p1
                  try clear p13
                  try clear p133
                  try clear p135
                  try clear p2
                  try clear q1
                  try clear q13
                  try clear q133
                  try clear q135
                  obtain ⟨kq, x43_29, rfl, HA, HJ29, BK134, BK136, HB⟩ := hcut
                  cases kq with
                  | zero => exact absurd HA.out (by simp [erewhileref35_why.j1])
                  | succ kj29 =>
                    have H := HA.out
                    clear HA
                    simp only [erewhileref35_why.j1] at H
                    by_cases c41 : x43_29 = true
                    · subst c41
                      have H1 : (some 2) = some r := by rw [if_pos rfl] at H; exact H
                      clear H
                      have H := H1
                      clear H1
                      obtain rfl := Option.some.inj H
                      go_wp2
                      go_ret
                      exact ⟨by first | rfl | (simp [errW_none, errW_some] <;> rfl) | (simp [*, errW_none, errW_some] <;> rfl), by repeat (first | (with_reducible first | exact HB.out | apply below_alloc | apply pw_below_drewN | apply below_drew1 | refine below_set ?_ GE134.out | refine below_set ?_ GE136.out) | exact HB.out)⟩
                    · replace c41 := Bool.eq_false_iff.mpr c41
                      subst c41
                      have H1 : ((erewhileref35_Covers.f kj29 ((rd_T33 l0 a2).f0) ((rd_T33 l0 a2).f1) ((rd_T33 l0 a2).f2) ((rd_T33 l0 a1).f0) ((rd_T33 l0 a1).f1) ((rd_T33 l0 a1).f2)).bind fun t138 => (if t138 = true then ((erewhileref35_Covers.f kj29 ((rd_T33 l0 a1).f0) ((rd_T33 l0 a1).f1) ((rd_T33 l0 a1).f2) ((rd_T33 l0 a2).f0) ((rd_T33 l0 a2).f1) ((rd_T33 l0 a2).f2)).bind fun t139 => (if t139 = true then (if a1 > a2 then (some 3) else (some 0)) else (some 3))) else (some 0))) = some r := by rw [if_neg (show ¬ (false = true) by decide)] at H; exact H
                      clear H
                      have H := H1
                      clear H1
                      replace H := Option.bind_eq_some_iff.mp H
                      obtain ⟨t138, A420, H⟩ := H
                      replace H : (if t138 = true then ((erewhileref35_Covers.f kj29 ((rd_T33 l0 a1).f0) ((rd_T33 l0 a1).f1) ((rd_T33 l0 a1).f2) ((rd_T33 l0 a2).f0) ((rd_T33 l0 a2).f1) ((rd_T33 l0 a2).f2)).bind fun t139 => (if t139 = true then (if a1 > a2 then (some 3) else (some 0)) else (some 3))) else (some 0)) = some r := H
                      have A42 := Aside0.mk A420
                      clear A420
                      by_cases c43 : t138 = true
                      · subst c43
                        have H1 : ((erewhileref35_Covers.f kj29 ((rd_T33 l0 a1).f0) ((rd_T33 l0 a1).f1) ((rd_T33 l0 a1).f2) ((rd_T33 l0 a2).f0) ((rd_T33 l0 a2).f1) ((rd_T33 l0 a2).f2)).bind fun t139 => (if t139 = true then (if a1 > a2 then (some 3) else (some 0)) else (some 3))) = some r := by rw [if_pos rfl] at H; exact H
                        clear H
                        have H := H1
                        clear H1
                        replace H := Option.bind_eq_some_iff.mp H
                        obtain ⟨t139, A440, H⟩ := H
                        replace H : (if t139 = true then (if a1 > a2 then (some 3) else (some 0)) else (some 3)) = some r := H
                        have A44 := Aside0.mk A440
                        clear A440
                        by_cases c45 : t139 = true
                        · subst c45
                          have H1 : (if a1 > a2 then (some 3) else (some 0)) = some r := by rw [if_pos rfl] at H; exact H
                          clear H
                          have H := H1
                          clear H1
                          by_cases c46 : a1 > a2
                          · rw [if_pos c46] at H
                            have c46b0 : decide (a2 < a1) = true := decide_eq_true c46
                            clear c46
                            obtain rfl := Option.some.inj H
                            have hnb47 := NB136_134.out
                            have hnc47 := NB134_136.out
                            have hcz48_0 : wc.cell? ⟨gb136, 0, none⟩ = some (.int .i64 ((rd_T33 l0 a2).f0)) := (blk_cell BK136.out 0).trans rfl
                            have hcz48_1 : wc.cell? ⟨gb136, 1, none⟩ = some (.int .i64 ((rd_T33 l0 a2).f1)) := (blk_cell BK136.out 1).trans rfl
                            have hcz48_2 : wc.cell? ⟨gb136, 2, none⟩ = some (.int .i64 ((rd_T33 l0 a2).f2)) := (blk_cell BK136.out 2).trans rfl
                            have hfz48_0 := blk_frozen BK136.out 0
                            have hfz48_1 := blk_frozen BK136.out 1
                            have hfz48_2 := blk_frozen BK136.out 2
                            have hcz49_0 : wc.cell? ⟨gb134, 0, none⟩ = some (.int .i64 ((rd_T33 l0 a1).f0)) := (blk_cell BK134.out 0).trans rfl
                            have hcz49_1 : wc.cell? ⟨gb134, 1, none⟩ = some (.int .i64 ((rd_T33 l0 a1).f1)) := (blk_cell BK134.out 1).trans rfl
                            have hcz49_2 : wc.cell? ⟨gb134, 2, none⟩ = some (.int .i64 ((rd_T33 l0 a1).f2)) := (blk_cell BK134.out 2).trans rfl
                            have hfz49_0 := blk_frozen BK134.out 0
                            have hfz49_1 := blk_frozen BK134.out 1
                            have hfz49_2 := blk_frozen BK134.out 2
                            go_wp2_with (first | ((with_reducible refine gate_callee (f := 15) rfl ?_); refine goesL_ (some 46) rfl rfl Try.func15 (by kernel_rfl) rfl #[.agg #[.int .i64 ((rd_T33 l0 a2).f0), .int .i64 ((rd_T33 l0 a2).f1), .int .i64 ((rd_T33 l0 a2).f2)], .agg #[.int .i64 ((rd_T33 l0 a1).f0), .int .i64 ((rd_T33 l0 a1).f1), .int .i64 ((rd_T33 l0 a1).f2)]] rfl (by (try simp only [List.map_toArray, List.map_cons, List.map_nil]); first | done | rfl | (simp only [List.length_drop, List.length_take]; rfl)) ?_; (with_reducible refine (erewhileref35_Covers.calls kj29 ((rd_T33 l0 a2).f0) ((rd_T33 l0 a2).f1) ((rd_T33 l0 a2).f2) ((rd_T33 l0 a1).f0) ((rd_T33 l0 a1).f1) ((rd_T33 l0 a1).f2) true _ A42.out).mono ?_); rintro e w50 ⟨rfl, hb⟩; refine ⟨_, rfl, ?_⟩; have n0_ := Aside0.mk (blk_below (g := gb134) (o := .cells #[.int .i64 ((rd_T33 l0 a1).f0), .int .i64 ((rd_T33 l0 a1).f1), .int .i64 ((rd_T33 l0 a1).f2)] 33 (0, 0)) (by (with_reducible repeat (first | refine blk_drewN ?_ _ | refine blk_drew ?_ | refine blk_alloc ?_ _)); exact BK134.out) hb); have n1_ := Aside0.mk (blk_below (g := gb136) (o := .cells #[.int .i64 ((rd_T33 l0 a2).f0), .int .i64 ((rd_T33 l0 a2).f1), .int .i64 ((rd_T33 l0 a2).f2)] 33 (0, 0)) (by (with_reducible repeat (first | refine blk_drewN ?_ _ | refine blk_drew ?_ | refine blk_alloc ?_ _)); exact BK136.out) hb); have n2_ := Aside0.mk (below_step (by repeat (first | (with_reducible first | exact HB.out | apply below_alloc | apply pw_below_drewN | apply below_drew1 | refine below_set ?_ GE134.out | refine below_set ?_ GE136.out) | exact HB.out)) hb); clear BK134; clear BK136; clear HB; have BK134 := n0_; have BK136 := n1_; have HB := n2_; clear n0_ n1_ n2_; (try clear hb); (try clear hb2); (try clear hk); (try clear hi); have hcz51_0 : w50.cell? ⟨gb134, 0, none⟩ = some (.int .i64 ((rd_T33 l0 a1).f0)) := (blk_cell BK134.out 0).trans rfl; have hcz51_1 : w50.cell? ⟨gb134, 1, none⟩ = some (.int .i64 ((rd_T33 l0 a1).f1)) := (blk_cell BK134.out 1).trans rfl; have hcz51_2 : w50.cell? ⟨gb134, 2, none⟩ = some (.int .i64 ((rd_T33 l0 a1).f2)) := (blk_cell BK134.out 2).trans rfl; have hfz51_0 := blk_frozen BK134.out 0; have hfz51_1 := blk_frozen BK134.out 1; have hfz51_2 := blk_frozen BK134.out 2; have hcz52_0 : w50.cell? ⟨gb136, 0, none⟩ = some (.int .i64 ((rd_T33 l0 a2).f0)) := (blk_cell BK136.out 0).trans rfl; have hcz52_1 : w50.cell? ⟨gb136, 1, none⟩ = some (.int .i64 ((rd_T33 l0 a2).f1)) := (blk_cell BK136.out 1).trans rfl; have hcz52_2 : w50.cell? ⟨gb136, 2, none⟩ = some (.int .i64 ((rd_T33 l0 a2).f2)) := (blk_cell BK136.out 2).trans rfl; have hfz52_0 := blk_frozen BK136.out 0; have hfz52_1 := blk_frozen BK136.out 1; have hfz52_2 := blk_frozen BK136.out 2) | (go_at_call 15; (with_reducible refine (erewhileref35_Covers.calls kj29 ((rd_T33 l0 a1).f0) ((rd_T33 l0 a1).f1) ((rd_T33 l0 a1).f2) ((rd_T33 l0 a2).f0) ((rd_T33 l0 a2).f1) ((rd_T33 l0 a2).f2) true _ A44.out).mono ?_); rintro e w53 ⟨rfl, hb⟩; have n0_ := Aside0.mk (blk_below (g := gb134) (o := .cells #[.int .i64 ((rd_T33 l0 a1).f0), .int .i64 ((rd_T33 l0 a1).f1), .int .i64 ((rd_T33 l0 a1).f2)] 33 (0, 0)) (by (with_reducible repeat (first | refine blk_drewN ?_ _ | refine blk_drew ?_ | refine blk_alloc ?_ _)); exact BK134.out) hb); have n1_ := Aside0.mk (blk_below (g := gb136) (o := .cells #[.int .i64 ((rd_T33 l0 a2).f0), .int .i64 ((rd_T33 l0 a2).f1), .int .i64 ((rd_T33 l0 a2).f2)] 33 (0, 0)) (by (with_reducible repeat (first | refine blk_drewN ?_ _ | refine blk_drew ?_ | refine blk_alloc ?_ _)); exact BK136.out) hb); have n2_ := Aside0.mk (below_step (by repeat (first | (with_reducible first | exact HB.out | apply below_alloc | apply pw_below_drewN | apply below_drew1 | refine below_set ?_ GE134.out | refine below_set ?_ GE136.out) | exact HB.out)) hb); clear BK134; clear BK136; clear HB; have BK134 := n0_; have BK136 := n1_; have HB := n2_; clear n0_ n1_ n2_; (try clear hb); (try clear hb2); (try clear hk); (try clear hi)))
                            go_ret
                            exact ⟨by first | rfl | (simp [errW_none, errW_some] <;> rfl) | (simp [*, errW_none, errW_some] <;> rfl), by repeat (first | (with_reducible first | exact HB.out | apply below_alloc | apply pw_below_drewN | apply below_drew1 | refine below_set ?_ GE134.out | refine below_set ?_ GE136.out) | exact HB.out)⟩
                          · rw [if_neg c46] at H
                            have c46b0 : decide (a2 < a1) = false := decide_eq_false c46
                            clear c46
                            obtain rfl := Option.some.inj H
                            have hnb54 := NB136_134.out
                            have hnc54 := NB134_136.out
                            have hcz55_0 : wc.cell? ⟨gb136, 0, none⟩ = some (.int .i64 ((rd_T33 l0 a2).f0)) := (blk_cell BK136.out 0).trans rfl
                            have hcz55_1 : wc.cell? ⟨gb136, 1, none⟩ = some (.int .i64 ((rd_T33 l0 a2).f1)) := (blk_cell BK136.out 1).trans rfl
                            have hcz55_2 : wc.cell? ⟨gb136, 2, none⟩ = some (.int .i64 ((rd_T33 l0 a2).f2)) := (blk_cell BK136.out 2).trans rfl
                            have hfz55_0 := blk_frozen BK136.out 0
                            have hfz55_1 := blk_frozen BK136.out 1
                            have hfz55_2 := blk_frozen BK136.out 2
                            have hcz56_0 : wc.cell? ⟨gb134, 0, none⟩ = some (.int .i64 ((rd_T33 l0 a1).f0)) := (blk_cell BK134.out 0).trans rfl
                            have hcz56_1 : wc.cell? ⟨gb134, 1, none⟩ = some (.int .i64 ((rd_T33 l0 a1).f1)) := (blk_cell BK134.out 1).trans rfl
                            have hcz56_2 : wc.cell? ⟨gb134, 2, none⟩ = some (.int .i64 ((rd_T33 l0 a1).f2)) := (blk_cell BK134.out 2).trans rfl
                            have hfz56_0 := blk_frozen BK134.out 0
                            have hfz56_1 := blk_frozen BK134.out 1
                            have hfz56_2 := blk_frozen BK134.out 2
                            go_wp2_with (first | ((with_reducible refine gate_callee (f := 15) rfl ?_); refine goesL_ (some 46) rfl rfl Try.func15 (by kernel_rfl) rfl #[.agg #[.int .i64 ((rd_T33 l0 a2).f0), .int .i64 ((rd_T33 l0 a2).f1), .int .i64 ((rd_T33 l0 a2).f2)], .agg #[.int .i64 ((rd_T33 l0 a1).f0), .int .i64 ((rd_T33 l0 a1).f1), .int .i64 ((rd_T33 l0 a1).f2)]] rfl (by (try simp only [List.map_toArray, List.map_cons, List.map_nil]); first | done | rfl | (simp only [List.length_drop, List.length_take]; rfl)) ?_; (with_reducible refine (erewhileref35_Covers.calls kj29 ((rd_T33 l0 a2).f0) ((rd_T33 l0 a2).f1) ((rd_T33 l0 a2).f2) ((rd_T33 l0 a1).f0) ((rd_T33 l0 a1).f1) ((rd_T33 l0 a1).f2) true _ A42.out).mono ?_); rintro e w57 ⟨rfl, hb⟩; refine ⟨_, rfl, ?_⟩; have n0_ := Aside0.mk (blk_below (g := gb134) (o := .cells #[.int .i64 ((rd_T33 l0 a1).f0), .int .i64 ((rd_T33 l0 a1).f1), .int .i64 ((rd_T33 l0 a1).f2)] 33 (0, 0)) (by (with_reducible repeat (first | refine blk_drewN ?_ _ | refine blk_drew ?_ | refine blk_alloc ?_ _)); exact BK134.out) hb); have n1_ := Aside0.mk (blk_below (g := gb136) (o := .cells #[.int .i64 ((rd_T33 l0 a2).f0), .int .i64 ((rd_T33 l0 a2).f1), .int .i64 ((rd_T33 l0 a2).f2)] 33 (0, 0)) (by (with_reducible repeat (first | refine blk_drewN ?_ _ | refine blk_drew ?_ | refine blk_alloc ?_ _)); exact BK136.out) hb); have n2_ := Aside0.mk (below_step (by repeat (first | (with_reducible first | exact HB.out | apply below_alloc | apply pw_below_drewN | apply below_drew1 | refine below_set ?_ GE134.out | refine below_set ?_ GE136.out) | exact HB.out)) hb); clear BK134; clear BK136; clear HB; have BK134 := n0_; have BK136 := n1_; have HB := n2_; clear n0_ n1_ n2_; (try clear hb); (try clear hb2); (try clear hk); (try clear hi); have hcz58_0 : w57.cell? ⟨gb134, 0, none⟩ = some (.int .i64 ((rd_T33 l0 a1).f0)) := (blk_cell BK134.out 0).trans rfl; have hcz58_1 : w57.cell? ⟨gb134, 1, none⟩ = some (.int .i64 ((rd_T33 l0 a1).f1)) := (blk_cell BK134.out 1).trans rfl; have hcz58_2 : w57.cell? ⟨gb134, 2, none⟩ = some (.int .i64 ((rd_T33 l0 a1).f2)) := (blk_cell BK134.out 2).trans rfl; have hfz58_0 := blk_frozen BK134.out 0; have hfz58_1 := blk_frozen BK134.out 1; have hfz58_2 := blk_frozen BK134.out 2; have hcz59_0 : w57.cell? ⟨gb136, 0, none⟩ = some (.int .i64 ((rd_T33 l0 a2).f0)) := (blk_cell BK136.out 0).trans rfl; have hcz59_1 : w57.cell? ⟨gb136, 1, none⟩ = some (.int .i64 ((rd_T33 l0 a2).f1)) := (blk_cell BK136.out 1).trans rfl; have hcz59_2 : w57.cell? ⟨gb136, 2, none⟩ = some (.int .i64 ((rd_T33 l0 a2).f2)) := (blk_cell BK136.out 2).trans rfl; have hfz59_0 := blk_frozen BK136.out 0; have hfz59_1 := blk_frozen BK136.out 1; have hfz59_2 := blk_frozen BK136.out 2) | (go_at_call 15; (with_reducible refine (erewhileref35_Covers.calls kj29 ((rd_T33 l0 a1).f0) ((rd_T33 l0 a1).f1) ((rd_T33 l0 a1).f2) ((rd_T33 l0 a2).f0) ((rd_T33 l0 a2).f1) ((rd_T33 l0 a2).f2) true _ A44.out).mono ?_); rintro e w60 ⟨rfl, hb⟩; have n0_ := Aside0.mk (blk_below (g := gb134) (o := .cells #[.int .i64 ((rd_T33 l0 a1).f0), .int .i64 ((rd_T33 l0 a1).f1), .int .i64 ((rd_T33 l0 a1).f2)] 33 (0, 0)) (by (with_reducible repeat (first | refine blk_drewN ?_ _ | refine blk_drew ?_ | refine blk_alloc ?_ _)); exact BK134.out) hb); have n1_ := Aside0.mk (blk_below (g := gb136) (o := .cells #[.int .i64 ((rd_T33 l0 a2).f0), .int .i64 ((rd_T33 l0 a2).f1), .int .i64 ((rd_T33 l0 a2).f2)] 33 (0, 0)) (by (with_reducible repeat (first | refine blk_drewN ?_ _ | refine blk_drew ?_ | refine blk_alloc ?_ _)); exact BK136.out) hb); have n2_ := Aside0.mk (below_step (by repeat (first | (with_reducible first | exact HB.out | apply below_alloc | apply pw_below_drewN | apply below_drew1 | refine below_set ?_ GE134.out | refine below_set ?_ GE136.out) | exact HB.out)) hb); clear BK134; clear BK136; clear HB; have BK134 := n0_; have BK136 := n1_; have HB := n2_; clear n0_ n1_ n2_; (try clear hb); (try clear hb2); (try clear hk); (try clear hi)))
                            go_ret
                            exact ⟨by first | rfl | (simp [errW_none, errW_some] <;> rfl) | (simp [*, errW_none, errW_some] <;> rfl), by repeat (first | (with_reducible first | exact HB.out | apply below_alloc | apply pw_below_drewN | apply below_drew1 | refine below_set ?_ GE134.out | refine below_set ?_ GE136.out) | exact HB.out)⟩
                        · replace c45 := Bool.eq_false_iff.mpr c45
                          subst c45
                          have H1 : (some 3) = some r := by rw [if_neg (show ¬ (false = true) by decide)] at H; exact H
                          clear H
                          have H := H1
                          clear H1
                          obtain rfl := Option.some.inj H
                          have hnb61 := NB136_134.out
                          have hnc61 := NB134_136.out
                          have hcz62_0 : wc.cell? ⟨gb136, 0, none⟩ = some (.int .i64 ((rd_T33 l0 a2).f0)) := (blk_cell BK136.out 0).trans rfl
                          have hcz62_1 : wc.cell? ⟨gb136, 1, none⟩ = some (.int .i64 ((rd_T33 l0 a2).f1)) := (blk_cell BK136.out 1).trans rfl
                          have hcz62_2 : wc.cell? ⟨gb136, 2, none⟩ = some (.int .i64 ((rd_T33 l0 a2).f2)) := (blk_cell BK136.out 2).trans rfl
                          have hfz62_0 := blk_frozen BK136.out 0
                          have hfz62_1 := blk_frozen BK136.out 1
                          have hfz62_2 := blk_frozen BK136.out 2
                          have hcz63_0 : wc.cell? ⟨gb134, 0, none⟩ = some (.int .i64 ((rd_T33 l0 a1).f0)) := (blk_cell BK134.out 0).trans rfl
                          have hcz63_1 : wc.cell? ⟨gb134, 1, none⟩ = some (.int .i64 ((rd_T33 l0 a1).f1)) := (blk_cell BK134.out 1).trans rfl
                          have hcz63_2 : wc.cell? ⟨gb134, 2, none⟩ = some (.int .i64 ((rd_T33 l0 a1).f2)) := (blk_cell BK134.out 2).trans rfl
                          have hfz63_0 := blk_frozen BK134.out 0
                          have hfz63_1 := blk_frozen BK134.out 1
                          have hfz63_2 := blk_frozen BK134.out 2
                          go_wp2_with (first | ((with_reducible refine gate_callee (f := 15) rfl ?_); refine goesL_ (some 46) rfl rfl Try.func15 (by kernel_rfl) rfl #[.agg #[.int .i64 ((rd_T33 l0 a2).f0), .int .i64 ((rd_T33 l0 a2).f1), .int .i64 ((rd_T33 l0 a2).f2)], .agg #[.int .i64 ((rd_T33 l0 a1).f0), .int .i64 ((rd_T33 l0 a1).f1), .int .i64 ((rd_T33 l0 a1).f2)]] rfl (by (try simp only [List.map_toArray, List.map_cons, List.map_nil]); first | done | rfl | (simp only [List.length_drop, List.length_take]; rfl)) ?_; (with_reducible refine (erewhileref35_Covers.calls kj29 ((rd_T33 l0 a2).f0) ((rd_T33 l0 a2).f1) ((rd_T33 l0 a2).f2) ((rd_T33 l0 a1).f0) ((rd_T33 l0 a1).f1) ((rd_T33 l0 a1).f2) true _ A42.out).mono ?_); rintro e w64 ⟨rfl, hb⟩; refine ⟨_, rfl, ?_⟩; have n0_ := Aside0.mk (blk_below (g := gb134) (o := .cells #[.int .i64 ((rd_T33 l0 a1).f0), .int .i64 ((rd_T33 l0 a1).f1), .int .i64 ((rd_T33 l0 a1).f2)] 33 (0, 0)) (by (with_reducible repeat (first | refine blk_drewN ?_ _ | refine blk_drew ?_ | refine blk_alloc ?_ _)); exact BK134.out) hb); have n1_ := Aside0.mk (blk_below (g := gb136) (o := .cells #[.int .i64 ((rd_T33 l0 a2).f0), .int .i64 ((rd_T33 l0 a2).f1), .int .i64 ((rd_T33 l0 a2).f2)] 33 (0, 0)) (by (with_reducible repeat (first | refine blk_drewN ?_ _ | refine blk_drew ?_ | refine blk_alloc ?_ _)); exact BK136.out) hb); have n2_ := Aside0.mk (below_step (by repeat (first | (with_reducible first | exact HB.out | apply below_alloc | apply pw_below_drewN | apply below_drew1 | refine below_set ?_ GE134.out | refine below_set ?_ GE136.out) | exact HB.out)) hb); clear BK134; clear BK136; clear HB; have BK134 := n0_; have BK136 := n1_; have HB := n2_; clear n0_ n1_ n2_; (try clear hb); (try clear hb2); (try clear hk); (try clear hi); have hcz65_0 : w64.cell? ⟨gb134, 0, none⟩ = some (.int .i64 ((rd_T33 l0 a1).f0)) := (blk_cell BK134.out 0).trans rfl; have hcz65_1 : w64.cell? ⟨gb134, 1, none⟩ = some (.int .i64 ((rd_T33 l0 a1).f1)) := (blk_cell BK134.out 1).trans rfl; have hcz65_2 : w64.cell? ⟨gb134, 2, none⟩ = some (.int .i64 ((rd_T33 l0 a1).f2)) := (blk_cell BK134.out 2).trans rfl; have hfz65_0 := blk_frozen BK134.out 0; have hfz65_1 := blk_frozen BK134.out 1; have hfz65_2 := blk_frozen BK134.out 2; have hcz66_0 : w64.cell? ⟨gb136, 0, none⟩ = some (.int .i64 ((rd_T33 l0 a2).f0)) := (blk_cell BK136.out 0).trans rfl; have hcz66_1 : w64.cell? ⟨gb136, 1, none⟩ = some (.int .i64 ((rd_T33 l0 a2).f1)) := (blk_cell BK136.out 1).trans rfl; have hcz66_2 : w64.cell? ⟨gb136, 2, none⟩ = some (.int .i64 ((rd_T33 l0 a2).f2)) := (blk_cell BK136.out 2).trans rfl; have hfz66_0 := blk_frozen BK136.out 0; have hfz66_1 := blk_frozen BK136.out 1; have hfz66_2 := blk_frozen BK136.out 2) | (go_at_call 15; (with_reducible refine (erewhileref35_Covers.calls kj29 ((rd_T33 l0 a1).f0) ((rd_T33 l0 a1).f1) ((rd_T33 l0 a1).f2) ((rd_T33 l0 a2).f0) ((rd_T33 l0 a2).f1) ((rd_T33 l0 a2).f2) false _ A44.out).mono ?_); rintro e w67 ⟨rfl, hb⟩; have n0_ := Aside0.mk (blk_below (g := gb134) (o := .cells #[.int .i64 ((rd_T33 l0 a1).f0), .int .i64 ((rd_T33 l0 a1).f1), .int .i64 ((rd_T33 l0 a1).f2)] 33 (0, 0)) (by (with_reducible repeat (first | refine blk_drewN ?_ _ | refine blk_drew ?_ | refine blk_alloc ?_ _)); exact BK134.out) hb); have n1_ := Aside0.mk (blk_below (g := gb136) (o := .cells #[.int .i64 ((rd_T33 l0 a2).f0), .int .i64 ((rd_T33 l0 a2).f1), .int .i64 ((rd_T33 l0 a2).f2)] 33 (0, 0)) (by (with_reducible repeat (first | refine blk_drewN ?_ _ | refine blk_drew ?_ | refine blk_alloc ?_ _)); exact BK136.out) hb); have n2_ := Aside0.mk (below_step (by repeat (first | (with_reducible first | exact HB.out | apply below_alloc | apply pw_below_drewN | apply below_drew1 | refine below_set ?_ GE134.out | refine below_set ?_ GE136.out) | exact HB.out)) hb); clear BK134; clear BK136; clear HB; have BK134 := n0_; have BK136 := n1_; have HB := n2_; clear n0_ n1_ n2_; (try clear hb); (try clear hb2); (try clear hk); (try clear hi)))
                          go_ret
                          exact ⟨by first | rfl | (simp [errW_none, errW_some] <;> rfl) | (simp [*, errW_none, errW_some] <;> rfl), by repeat (first | (with_reducible first | exact HB.out | apply below_alloc | apply pw_below_drewN | apply below_drew1 | refine below_set ?_ GE134.out | refine below_set ?_ GE136.out) | exact HB.out)⟩
                      · replace c43 := Bool.eq_false_iff.mpr c43
                        subst c43
                        have H1 : (some 0) = some r := by rw [if_neg (show ¬ (false = true) by decide)] at H; exact H
                        clear H
                        have H := H1
                        clear H1
                        obtain rfl := Option.some.inj H
                        have hnb68 := NB136_134.out
                        have hnc68 := NB134_136.out
                        have hcz69_0 : wc.cell? ⟨gb136, 0, none⟩ = some (.int .i64 ((rd_T33 l0 a2).f0)) := (blk_cell BK136.out 0).trans rfl
                        have hcz69_1 : wc.cell? ⟨gb136, 1, none⟩ = some (.int .i64 ((rd_T33 l0 a2).f1)) := (blk_cell BK136.out 1).trans rfl
                        have hcz69_2 : wc.cell? ⟨gb136, 2, none⟩ = some (.int .i64 ((rd_T33 l0 a2).f2)) := (blk_cell BK136.out 2).trans rfl
                        have hfz69_0 := blk_frozen BK136.out 0
                        have hfz69_1 := blk_frozen BK136.out 1
                        have hfz69_2 := blk_frozen BK136.out 2
                        have hcz70_0 : wc.cell? ⟨gb134, 0, none⟩ = some (.int .i64 ((rd_T33 l0 a1).f0)) := (blk_cell BK134.out 0).trans rfl
                        have hcz70_1 : wc.cell? ⟨gb134, 1, none⟩ = some (.int .i64 ((rd_T33 l0 a1).f1)) := (blk_cell BK134.out 1).trans rfl
                        have hcz70_2 : wc.cell? ⟨gb134, 2, none⟩ = some (.int .i64 ((rd_T33 l0 a1).f2)) := (blk_cell BK134.out 2).trans rfl
                        have hfz70_0 := blk_frozen BK134.out 0
                        have hfz70_1 := blk_frozen BK134.out 1
                        have hfz70_2 := blk_frozen BK134.out 2
                        go_wp2_with (first | ((with_reducible refine gate_callee (f := 15) rfl ?_); refine goesL_ (some 46) rfl rfl Try.func15 (by kernel_rfl) rfl #[.agg #[.int .i64 ((rd_T33 l0 a2).f0), .int .i64 ((rd_T33 l0 a2).f1), .int .i64 ((rd_T33 l0 a2).f2)], .agg #[.int .i64 ((rd_T33 l0 a1).f0), .int .i64 ((rd_T33 l0 a1).f1), .int .i64 ((rd_T33 l0 a1).f2)]] rfl (by (try simp only [List.map_toArray, List.map_cons, List.map_nil]); first | done | rfl | (simp only [List.length_drop, List.length_take]; rfl)) ?_; (with_reducible refine (erewhileref35_Covers.calls kj29 ((rd_T33 l0 a2).f0) ((rd_T33 l0 a2).f1) ((rd_T33 l0 a2).f2) ((rd_T33 l0 a1).f0) ((rd_T33 l0 a1).f1) ((rd_T33 l0 a1).f2) false _ A42.out).mono ?_); rintro e w71 ⟨rfl, hb⟩; refine ⟨_, rfl, ?_⟩; have n0_ := Aside0.mk (blk_below (g := gb134) (o := .cells #[.int .i64 ((rd_T33 l0 a1).f0), .int .i64 ((rd_T33 l0 a1).f1), .int .i64 ((rd_T33 l0 a1).f2)] 33 (0, 0)) (by (with_reducible repeat (first | refine blk_drewN ?_ _ | refine blk_drew ?_ | refine blk_alloc ?_ _)); exact BK134.out) hb); have n1_ := Aside0.mk (blk_below (g := gb136) (o := .cells #[.int .i64 ((rd_T33 l0 a2).f0), .int .i64 ((rd_T33 l0 a2).f1), .int .i64 ((rd_T33 l0 a2).f2)] 33 (0, 0)) (by (with_reducible repeat (first | refine blk_drewN ?_ _ | refine blk_drew ?_ | refine blk_alloc ?_ _)); exact BK136.out) hb); have n2_ := Aside0.mk (below_step (by repeat (first | (with_reducible first | exact HB.out | apply below_alloc | apply pw_below_drewN | apply below_drew1 | refine below_set ?_ GE134.out | refine below_set ?_ GE136.out) | exact HB.out)) hb); clear BK134; clear BK136; clear HB; have BK134 := n0_; have BK136 := n1_; have HB := n2_; clear n0_ n1_ n2_; (try clear hb); (try clear hb2); (try clear hk); (try clear hi)))
                        go_ret
                        exact ⟨by first | rfl | (simp [errW_none, errW_some] <;> rfl) | (simp [*, errW_none, errW_some] <;> rfl), by repeat (first | (with_reducible first | exact HB.out | apply below_alloc | apply pw_below_drewN | apply below_drew1 | refine below_set ?_ GE134.out | refine below_set ?_ GE136.out) | exact HB.out)⟩
        · rw [if_neg c7] at H
          exact absurd H (by simp)
      · rw [if_neg c6] at H
        exact absurd H (by simp)
    · rw [if_neg c5] at H
      exact absurd H (by simp)
  · rw [if_neg c4] at H
    exact absurd H (by simp)

end Go.Proofs.Ytlfkdbfbkgcgnaa.All
