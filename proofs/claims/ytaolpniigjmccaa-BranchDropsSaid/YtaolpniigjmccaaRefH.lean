/-
  An act by both forests. No condition but that both lie as their rows say, of one forest.
-/
import Derived.Test.YtaolpniigjmccaaRefG
import Derived.Test.YtaolpniigjmccaaKeep
namespace Go.Proofs.Ytaolpniigjmccaa.All
open Go.RowKit Go.Proofs.YtaolpniigjmccaaW.PrintWords Go.Proofs.YtaolpniigjmccaaW.PrintLast Go.Proofs.YtaolpniigjmccaaW.PrintMore Go.Proofs.Ytaolpniigjmccaa.Wd
set_option linter.unusedVariables false
set_option linter.unusedSimpArgs false
/-- Both forests in memory. -/
structure Two (w : World) (b g : Nat) (F : List Tw) : Prop where
  f : At w b 69 F
  x : ∃ A c, XAt w g A c (refL F)
theorem Two.below {w w2 : World} {b g : Nat} {F : List Tw} (h : Two w b g F) (hb : Below w.heap.size w w2) : Two w2 b g F := ⟨h.f.below hb, let ⟨A, c, hx⟩ := h.x; ⟨A, c, hx.below hb⟩⟩
theorem Two.ne {w : World} {b g : Nat} {F : List Tw} (h : Two w b g F) : b ≠ g := let ⟨_, _, hx⟩ := h.x; hx.apart h.f
def DoPost (F : List Tw) (a : Ac) (b g : Nat) (w : World) (e : Ending) (w' : World) : Prop := ∃ k, e = .returned (.tuple #[.int .i64 k, .int .i64 k]) ∧ Two w' b g (actF F a) ∧ Chg (fun q => q = b ∨ q = g) w w'
theorem XAt.drew {w : World} {g : Nat} {A : Option Addr} {c : Nat} {X : List Br} (h : XAt w g A c X) : XAt w.drew g A c X := ⟨h.head, h.cap, h.row⟩
theorem two_end {F G : List Tw} {b g : Nat} {w w0 w1 w2 : World} {o : Obj} (hA : At w b 69 F) (hg : g < w.heap.size) (e0 : ∀ S w', Chg S w0 w' → Chg S (w.alloc o) w') (h1 : At w1 b 69 G) (hc1 : Chg (· = b) w0 w1) (hne : b ≠ g) (hx : ∃ A c, XAt w2 g A c (refL G)) (hc2 : Chg (· = g) w1 w2) :
    Two w2 b g G ∧ Chg (fun q => q = b ∨ q = g) w w2 :=
  ⟨⟨h1.chg hc2 hne, hx⟩, (Chg.of_below (below_alloc (Below.refl _ _) o)).trans (((e0 _ _ hc1).mono (fun _ h => .inl h)).trans (hc2.mono (fun _ h => .inr h)))⟩
set_option maxRecDepth 100000 in
set_option maxHeartbeats 1000000 in
theorem do_drop {F : List Tw} (ok : Ok F) {b g : Nat} {w : World} (h : Two w b g F) (a : Ac) (hd : a.d = true) :
    Calls Try.prog 17 #[.pointer (some ⟨b, 0, none⟩), .pointer (some ⟨g, 0, none⟩), .agg #[.bool a.d, .int .i64 a.id, .int .i64 a.p, .int .u64 a.b, .int .u64 a.n]] w (DoPost F a b g w) := by
  have hF : actF F a = dropF F a.id := by unfold actF; rw [hd]; rfl
  have hne := h.ne
  obtain ⟨A, c, hx⟩ := h.x
  have FC : ∀ w', At w' b 69 F → Calls Try.prog 12 #[.pointer (some ⟨b, 0, none⟩), .int .i64 a.id] w' fun e w2 => e = .returned (.int .i64 (dropC F a.id)) ∧ At w2 b 69 (dropF F a.id) ∧ Chg (· = b) w' w2 := fun w' hA => drop_calls' hA rfl rfl
  have RC : ∀ w', XAt w' g A c (refL F) → Calls Try.prog 30 #[.pointer (some ⟨g, 0, none⟩), .int .i64 a.id] w' fun e w2 => e = .returned (.int .i64 (dropC F a.id)) ∧ (∃ A c, XAt w2 g A c (refL (dropF F a.id))) ∧ Chg (· = g) w' w2 := fun w' hX => rdrop_is ok hX a.id
  replace FC := Lib.hid FC
  replace RC := Lib.hid RC
  have HF := Lib.hid hF
  have HA := Lib.hid h.f
  have HX := Lib.hid hx
  have hbw : b ≠ w.heap.size := by have := h.f.lt; omega
  have hglt := hx.lt
  have hgw : g ≠ w.heap.size := by have := hx.lt; omega
  have HA0 : Hid (At (w.alloc (.cells #[.bool true, .int .i64 a.id, .int .i64 a.p, .int .u64 a.b, .int .u64 a.n] 25)) b 69 F) := Lib.hid (h.f.below (below_alloc (Below.refl _ _) _))
  have HX0 : Hid (XAt (w.alloc (.cells #[.bool true, .int .i64 a.id, .int .i64 a.p, .int .u64 a.b, .int .u64 a.n] 25)) g A c (refL F)) := Lib.hid (hx.below (below_alloc (Below.refl _ _) _))
  clear hF h hx
  generalize dropC F a.id = dc at *
  rw [hd]
  go_enter Try.func17, Try.ntmps17
  go_wp2
  have hcell : (w.alloc (.cells #[.bool true, .int .i64 a.id, .int .i64 a.p, .int .u64 a.b, .int .u64 a.n] 25)).cell? { block := w.heap.size, off := 1 } = some (.int .i64 a.id) := cell_of_row _ _ 1 _ _ (0, 0) (heap_alloc_new w _)
  go_region_held3 (fun w' => w'.cell? { block := w.heap.size, off := 1 } = some (.int .i64 a.id)) (first | exact hcell | exact hcell2 | exact hcell1)
    ((first
      | (go_at_call 12
         refine (FC.out _ (by exact HA0.out)).mono ?_
         rintro e w1 ⟨rfl, hA1, hc1⟩
         have hcell1 := (World.cell?_of_block (a := { block := w.heap.size, off := 1 }) (hc1.block w.heap.size (by simp) (Ne.symm hbw))).trans hcell
         have hX1 := (show XAt _ g A c (refL F) from by first | exact HX0.out | exact HX0.out.drew).forest (b := b) (F := F) (by exact HA0.out) hc1
         replace hX1 := Lib.hid hX1
         replace hA1 := Lib.hid hA1
         replace hc1 := Lib.hid hc1)
      | (go_at_call 30
         refine (RC.out _ (by first | exact hX1.out | exact hX1.out.drew)).mono ?_
         rintro e w2 ⟨rfl, hX2, hc2⟩
         have hcell2 := (World.cell?_of_block (a := { block := w.heap.size, off := 1 }) (hc2.block w.heap.size (Array.getElem?_eq_some_iff.1 (hc1.out.old (heap_alloc_new w _) (Ne.symm hbw))).1 (Ne.symm hgw))).trans hcell1
         replace hX2 := Lib.hid hX2
         replace hc2 := Lib.hid hc2)))
  go_wp2
  go_ret2
  obtain ⟨e1, e2⟩ := two_end (o := .cells #[.bool true, .int .i64 a.id, .int .i64 a.p, .int .u64 a.b, .int .u64 a.n] 25) (w0 := (w.alloc (.cells #[.bool true, .int .i64 a.id, .int .i64 a.p, .int .u64 a.b, .int .u64 a.n] 25)).drew) HA.out hglt (fun S w' h => ⟨h.os, h.tape, h.output, h.size, h.block⟩) hA1.out hc1.out hne hX2.out hc2.out
  exact ⟨dc, rfl, by rw [HF.out]; exact e1, e2⟩
set_option maxRecDepth 100000 in
set_option maxHeartbeats 1000000 in
theorem do_fork {F : List Tw} (RF : ∀ (w : World) (g c : Nat) (A : Option Addr) (x p b n : Int), XAt w g A c (refL F) → Calls Try.prog 31 #[.pointer (some ⟨g, 0, none⟩), .int .i64 x, .int .i64 p, .int .u64 b, .int .u64 n] w fun e w2 => e = .returned (.int .i64 (forkC F x p b n)) ∧ (∃ A c, XAt w2 g A c (refL (forkF F x p b n))) ∧ Chg (· = g) w w2) {b g : Nat} {w : World} (h : Two w b g F) (a : Ac) (hd : a.d = false) :
    Calls Try.prog 17 #[.pointer (some ⟨b, 0, none⟩), .pointer (some ⟨g, 0, none⟩), .agg #[.bool a.d, .int .i64 a.id, .int .i64 a.p, .int .u64 a.b, .int .u64 a.n]] w (DoPost F a b g w) := by
  have hF : actF F a = forkF F a.id a.p a.b a.n := by unfold actF; rw [hd]; rfl
  have hne := h.ne
  obtain ⟨A, c, hx⟩ := h.x
  have FC : ∀ w', At w' b 69 F → Calls Try.prog 13 #[.pointer (some ⟨b, 0, none⟩), .int .i64 a.id, .int .i64 a.p, .int .u64 a.b, .int .u64 a.n] w' fun e w2 => e = .returned (.int .i64 (forkC F a.id a.p a.b a.n)) ∧ At w2 b 69 (forkF F a.id a.p a.b a.n) ∧ Chg (· = b) w' w2 := fun w' hA => fork_calls' hA rfl rfl
  have RC : ∀ w', XAt w' g A c (refL F) → Calls Try.prog 31 #[.pointer (some ⟨g, 0, none⟩), .int .i64 a.id, .int .i64 a.p, .int .u64 a.b, .int .u64 a.n] w' fun e w2 => e = .returned (.int .i64 (forkC F a.id a.p a.b a.n)) ∧ (∃ A c, XAt w2 g A c (refL (forkF F a.id a.p a.b a.n))) ∧ Chg (· = g) w' w2 := fun w' hX => RF w' g c A a.id a.p a.b a.n hX
  replace FC := Lib.hid FC
  replace RC := Lib.hid RC
  have HF := Lib.hid hF
  have HA := Lib.hid h.f
  have HX := Lib.hid hx
  have hbw : b ≠ w.heap.size := by have := h.f.lt; omega
  have hglt := hx.lt
  have hgw : g ≠ w.heap.size := by have := hx.lt; omega
  have HA0 : Hid (At (w.alloc (.cells #[.bool false, .int .i64 a.id, .int .i64 a.p, .int .u64 a.b, .int .u64 a.n] 25)) b 69 F) := Lib.hid (h.f.below (below_alloc (Below.refl _ _) _))
  have HX0 : Hid (XAt (w.alloc (.cells #[.bool false, .int .i64 a.id, .int .i64 a.p, .int .u64 a.b, .int .u64 a.n] 25)) g A c (refL F)) := Lib.hid (hx.below (below_alloc (Below.refl _ _) _))
  clear hF h hx
  generalize forkC F a.id a.p a.b a.n = dc at *
  rw [hd]
  go_enter Try.func17, Try.ntmps17
  go_wp2
  have hcell : (w.alloc (.cells #[.bool false, .int .i64 a.id, .int .i64 a.p, .int .u64 a.b, .int .u64 a.n] 25)).cell? { block := w.heap.size, off := 1 } = some (.int .i64 a.id) ∧ (w.alloc (.cells #[.bool false, .int .i64 a.id, .int .i64 a.p, .int .u64 a.b, .int .u64 a.n] 25)).cell? { block := w.heap.size, off := 2 } = some (.int .i64 a.p) ∧ (w.alloc (.cells #[.bool false, .int .i64 a.id, .int .i64 a.p, .int .u64 a.b, .int .u64 a.n] 25)).cell? { block := w.heap.size, off := 3 } = some (.int .u64 a.b) ∧ (w.alloc (.cells #[.bool false, .int .i64 a.id, .int .i64 a.p, .int .u64 a.b, .int .u64 a.n] 25)).cell? { block := w.heap.size, off := 4 } = some (.int .u64 a.n) := ⟨cell_of_row _ _ 1 _ _ (0, 0) (heap_alloc_new w _), cell_of_row _ _ 2 _ _ (0, 0) (heap_alloc_new w _), cell_of_row _ _ 3 _ _ (0, 0) (heap_alloc_new w _), cell_of_row _ _ 4 _ _ (0, 0) (heap_alloc_new w _)⟩
  go_region_held3 (fun w' => w'.cell? { block := w.heap.size, off := 1 } = some (.int .i64 a.id) ∧ w'.cell? { block := w.heap.size, off := 2 } = some (.int .i64 a.p) ∧ w'.cell? { block := w.heap.size, off := 3 } = some (.int .u64 a.b) ∧ w'.cell? { block := w.heap.size, off := 4 } = some (.int .u64 a.n)) (first | exact hcell | exact hcell2 | exact hcell1)
    ((first
      | (go_at_call 13
         refine (FC.out _ (by exact HA0.out)).mono ?_
         rintro e w1 ⟨rfl, hA1, hc1⟩
         have hcell1 := And.intro ((World.cell?_of_block (a := { block := w.heap.size, off := 1 }) (hc1.block w.heap.size (by simp) (Ne.symm hbw))).trans hcell.1) (And.intro ((World.cell?_of_block (a := { block := w.heap.size, off := 2 }) (hc1.block w.heap.size (by simp) (Ne.symm hbw))).trans hcell.2.1) (And.intro ((World.cell?_of_block (a := { block := w.heap.size, off := 3 }) (hc1.block w.heap.size (by simp) (Ne.symm hbw))).trans hcell.2.2.1) ((World.cell?_of_block (a := { block := w.heap.size, off := 4 }) (hc1.block w.heap.size (by simp) (Ne.symm hbw))).trans hcell.2.2.2)))
         have hX1 := (show XAt _ g A c (refL F) from by first | exact HX0.out | exact HX0.out.drew).forest (b := b) (F := F) (by exact HA0.out) hc1
         replace hX1 := Lib.hid hX1
         replace hA1 := Lib.hid hA1
         replace hc1 := Lib.hid hc1)
      | (go_at_call 31
         refine (RC.out _ (by first | exact hX1.out | exact hX1.out.drew)).mono ?_
         rintro e w2 ⟨rfl, hX2, hc2⟩
         have hcell2 := And.intro ((World.cell?_of_block (a := { block := w.heap.size, off := 1 }) (hc2.block w.heap.size (Array.getElem?_eq_some_iff.1 (hc1.out.old (heap_alloc_new w _) (Ne.symm hbw))).1 (Ne.symm hgw))).trans hcell1.1) (And.intro ((World.cell?_of_block (a := { block := w.heap.size, off := 2 }) (hc2.block w.heap.size (Array.getElem?_eq_some_iff.1 (hc1.out.old (heap_alloc_new w _) (Ne.symm hbw))).1 (Ne.symm hgw))).trans hcell1.2.1) (And.intro ((World.cell?_of_block (a := { block := w.heap.size, off := 3 }) (hc2.block w.heap.size (Array.getElem?_eq_some_iff.1 (hc1.out.old (heap_alloc_new w _) (Ne.symm hbw))).1 (Ne.symm hgw))).trans hcell1.2.2.1) ((World.cell?_of_block (a := { block := w.heap.size, off := 4 }) (hc2.block w.heap.size (Array.getElem?_eq_some_iff.1 (hc1.out.old (heap_alloc_new w _) (Ne.symm hbw))).1 (Ne.symm hgw))).trans hcell1.2.2.2)))
         replace hX2 := Lib.hid hX2
         replace hc2 := Lib.hid hc2)))
  go_wp2
  go_ret2
  obtain ⟨e1, e2⟩ := two_end (o := .cells #[.bool false, .int .i64 a.id, .int .i64 a.p, .int .u64 a.b, .int .u64 a.n] 25) (w0 := (w.alloc (.cells #[.bool false, .int .i64 a.id, .int .i64 a.p, .int .u64 a.b, .int .u64 a.n] 25)).drew) HA.out hglt (fun S w' h => ⟨h.os, h.tape, h.output, h.size, h.block⟩) hA1.out hc1.out hne hX2.out hc2.out
  exact ⟨dc, rfl, by rw [HF.out]; exact e1, e2⟩
end Go.Proofs.Ytaolpniigjmccaa.All
