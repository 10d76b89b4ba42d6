/-
  alike: the program's forest and the document's tell the same (the trunk, a line). No condition but that both lie as their rows say, of one forest. WRITTEN BY wip/c29/mkalike.py.
-/
import Derived.Test.YtaolpniigjmccaaRefL
namespace Go.Proofs.Ytaolpniigjmccaa.All
open Go.RowKit Go.Proofs.YtaolpniigjmccaaW.PrintWords Go.Proofs.YtaolpniigjmccaaW.PrintLast Go.Proofs.YtaolpniigjmccaaW.PrintMore Go.Proofs.Ytaolpniigjmccaa.Wd
set_option linter.unusedVariables false
set_option linter.unusedSimpArgs false
private theorem drewX {w : World} {g : Nat} {A : Option Addr} {c : Nat} {X : List Br} (h : XAt w g A c X) (n : Nat) : XAt (w.drewN n) g A c X := ⟨h.head, h.cap, h.row⟩
private theorem ym (motive : Option Value → Sort _) (h1 : (b : Bool) → motive (some (.bool b))) (h2 : (x : Option Value) → motive x) : Go.yielded.match_1 motive (some undef) h1 h2 = h2 (some undef) := rfl
attribute [local go_sem, local simp] ym
set_option maxRecDepth 100000 in
set_option maxHeartbeats 4000000 in
theorem alike_zero1 {F : List Tw} (ok : Ok F) {b g c : Nat} {A : Option Addr} {w : World} (ha : At w b 69 F) (hx : XAt w g A c (refL F)) (id m : Int) (hal : aliveF F id = true) (hso : isSon F id = false) (hok : lineOk F id m = true) :
    Calls Try.prog 22 #[.pointer (some ⟨b, 0, none⟩), .pointer (some ⟨g, 0, none⟩), .int .i64 id, .int .u64 m] w fun e w' => e = .returned (.bool true) ∧ Below w.heap.size w w' := by
  have hP : parP F id = 0 ∧ parB F id = 0 := by unfold parP parB; rw [hso]; exact ⟨rfl, rfl⟩
  have RA : ∀ w, XAt w g A c (refL F) → Calls Try.prog 29 #[.pointer (some ⟨g, 0, none⟩), .int .i64 id] w fun e w' => e = .returned (.bool true) ∧ w = w' := fun w h => by have := ralive_is ok h id; rwa [hal] at this
  have FA : ∀ w, At w b 69 F → Calls Try.prog 21 #[.pointer (some ⟨b, 0, none⟩), .int .i64 id] w fun e w' => e = .returned (.bool true) ∧ w = w' := fun w h => by have := alive_calls F b id _ h; rwa [hal] at this
  have FP : ∀ w, At w b 69 F → Calls Try.prog 16 #[.pointer (some ⟨b, 0, none⟩), .int .i64 id] w fun e w' => e = .returned (.tuple #[.int .i64 0, .int .u64 0, .bool false]) ∧ Drawn0 w w' := fun w h => by have := parent_calls F b id _ h; rwa [hso, hP.1, hP.2] at this
  have FN : ∀ w, At w b 69 F → Calls Try.prog 15 #[.pointer (some ⟨b, 0, none⟩), .int .i64 id] w fun e w' => e = .returned (.tuple #[.int .u64 (numF F id), .bool true]) ∧ w = w' := fun w h => by have := num_calls F b id _ h; rwa [hal] at this
  have RF : ∀ w, XAt w g A c (refL F) → Calls Try.prog 34 #[.pointer (some ⟨g, 0, none⟩), .int .i64 id] w fun e w' => e = .returned (.int .i64 (-1)) ∧ w = w' := fun w h => by have := rfind_is ok h id; rwa [if_neg (by rw [hso]; decide)] at this
  have RN : ∀ w, XAt w g A c (refL F) → Calls Try.prog 36 #[.pointer (some ⟨g, 0, none⟩), .int .i64 id] w fun e w' => e = .returned (.int .u64 (numF F id)) ∧ w = w' := fun w h => rnum_is ok h id
  have hLn := lineL_len ok id m
  have FL : ∀ w, At w b 69 F → Calls Try.prog 14 #[.pointer (some ⟨b, 0, none⟩), .int .i64 id, .int .u64 m] w fun e w' => ∃ A cap, e = .returned (.tuple #[.slice A (lineL F id m).length cap, .int .i64 0]) ∧ Rd b w' A (lineL F id m) ∧ Below w.heap.size w w' := fun w h => by have := line_calls (id := id) (m := m) h ok; rwa [show lineE F id m = 0 by unfold lineE; rw [hok]; rfl] at this
  have RL : ∀ w, XAt w g A c (refL F) → Calls Try.prog 37 #[.pointer (some ⟨g, 0, none⟩), .int .i64 id, .int .u64 m] w fun e w' => ∃ A cap, e = .returned (.tuple #[.slice A (lineL F id m).length cap, .bool true]) ∧ Rd g w' A (lineL F id m) ∧ Below w.heap.size w w' := fun w h => by have := rline_is ok h id m; rwa [hok] at this
  have KC : ∀ w, At w b 69 F → Calls Try.prog 19 #[.pointer (some ⟨b, 0, none⟩), .int .i64 id] w fun e w' => e = .returned (.int .i64 (kidsF F id : Nat)) ∧ Below w.heap.size w w' := fun w h => kids_calls F b id w h
  have RK : ∀ w, XAt w g A c (refL F) → Calls Try.prog 35 #[.pointer (some ⟨g, 0, none⟩), .int .i64 id] w fun e w' => e = .returned (.int .i64 (kidsF F id : Nat)) ∧ w = w' := fun w h => rkids_is ok h id
  generalize kidsF F id = kd at *
  generalize numF F id = nf at *
  generalize lineL F id m = L at *
  replace RA := Lib.hid RA
  replace FA := Lib.hid FA
  replace FP := Lib.hid FP
  replace FN := Lib.hid FN
  replace RF := Lib.hid RF
  replace FL := Lib.hid FL
  replace RL := Lib.hid RL
  replace KC := Lib.hid KC
  replace RK := Lib.hid RK
  replace RN := Lib.hid RN
  have HA := Lib.hid ha
  have HX := Lib.hid hx
  have HB := Lib.hid (Below.refl w.heap.size w)
  clear hal hso hP ha hx hok ok
  go_enter Try.func22, Try.ntmps22
  go_wp2_with (first
    | (go_at_call 29; refine (RA.out _ HX.out).mono ?_; rintro e w' ⟨rfl, rfl⟩)
    | (go_at_call 21; refine (FA.out _ HA.out).mono ?_; rintro e w' ⟨rfl, rfl⟩)
    | (go_at_call 16; refine (FP.out _ HA.out).mono ?_; (rintro e w' ⟨rfl, ⟨mm, rfl⟩⟩; have HA : Hid (At (w.drewN mm) b 69 F) := HA; have HX : Hid (XAt (w.drewN mm) g A c (refL F)) := Lib.hid (drewX HX.out mm); have HB : Hid (Below w.heap.size w (w.drewN mm)) := Lib.hid (pw_below_drewN (Below.refl _ _) mm); generalize w.drewN mm = wd at *))
    | (go_at_call 15; refine (FN.out _ HA.out).mono ?_; rintro e w' ⟨rfl, rfl⟩)
    | (go_at_call 34; refine (RF.out _ HX.out).mono ?_; rintro e w' ⟨rfl, rfl⟩)
    | (go_at_call 35; refine (RK.out _ HX.out).mono ?_; rintro e w' ⟨rfl, rfl⟩)
    | (go_at_call 19; refine (KC.out _ HA.out).mono ?_; rintro e w1 ⟨rfl, hb1⟩; replace HA := Lib.hid (HA.out.below hb1); replace HX := Lib.hid (HX.out.below hb1); replace HB := Lib.hid (below_then HB.out HB.out.size hb1); clear hb1)
    | (go_at_call 36; refine (RN.out _ HX.out).mono ?_; rintro e w' ⟨rfl, rfl⟩)
    | (go_at_call 14; refine (FL.out _ HA.out).mono ?_; rintro e w2 ⟨Al, cl, rfl, hl1, hb2⟩; replace HX := Lib.hid (HX.out.below hb2); replace HB := Lib.hid (below_then HB.out HB.out.size hb2); replace hl1 := Lib.hid hl1; clear hb2)
    | (go_at_call 37; refine (RL.out _ HX.out).mono ?_; rintro e w3 ⟨Ar, cr, rfl, hr1, hb3⟩; replace hl1 := Lib.hid (hl1.out.below hb3); replace HB := Lib.hid (below_then HB.out HB.out.size hb3); replace hr1 := Lib.hid hr1; clear hb3))
  go_loopw [20] (fun v20 wr => ∃ k : Nat, v20 = .int .i64 k ∧ k ≤ L.length ∧ Hid (Rd b wr Al L) ∧ Hid (Rd g wr Ar L) ∧ Hid (Below w.heap.size w wr)) (fun v20 _ => L.length - (intOf v20).toNat)
  case atStart => exact ⟨0, rfl, Nat.zero_le _, hl1, hr1, HB⟩
  case round =>
    clear hl1 hr1 HB HX
    obtain ⟨k, rfl, hk, hl1, hr1, HB⟩ := hrel
    by_cases hlt : k < L.length
    · obtain ⟨bl, rfl, f0, f1, f2⟩ := hl1.out.cell hlt
      obtain ⟨br, rfl, g0, g1, g2⟩ := hr1.out.cell hlt
      generalize L[k].1 = y0 at *
      generalize L[k].2.1 = y1 at *
      generalize L[k].2.2 = y2 at *
      go_wp2
      go_quiet (fail)
      go_wp2
      go_roundw
      case rel => exact ⟨k + 1, by go_num, by omega, Lib.hid (hl1.out.below (pw_below_drewN (Below.refl _ _) _)), Lib.hid (hr1.out.below (pw_below_drewN (Below.refl _ _) _)), Lib.hid (pw_below_drewN HB.out _)⟩
      case measure => simp [intOf]; omega
    · obtain rfl : k = L.length := by omega
      go_wp2
      go_ret
      exact ⟨rfl, HB.out⟩
end Go.Proofs.Ytaolpniigjmccaa.All
