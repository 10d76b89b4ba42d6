/-
  alike: the program's forest and the document's tell the same (the trunk, no line). No condition but that both lie as their rows say, of one forest. WRITTEN BY wip/c29/mkalike.py.
-/
import Derived.Test.YtaolpniigjmccaaRefL
namespace Go.Proofs.Ytaolpniigjmccaa.All
open Go.RowKit Go.Proofs.YtaolpniigjmccaaW.PrintWords Go.Proofs.YtaolpniigjmccaaW.PrintLast Go.Proofs.YtaolpniigjmccaaW.PrintMore Go.Proofs.Ytaolpniigjmccaa.Wd
set_option linter.unusedVariables false
set_option linter.unusedSimpArgs false
private theorem drewX {w : World} {g : Nat} {A : Option Addr} {c : Nat} {X : List Br} (h : XAt w g A c X) (n : Nat) : XAt (w.drewN n) g A c X := ⟨h.head, h.cap, h.row⟩
private theorem ym (motive : Option Value → Sort _) (h1 : (b : Bool) → motive (some (.bool b))) (h2 : (x : Option Value) → motive x) : Go.yielded.match_1 motive (some undef) h1 h2 = h2 (some undef) := rfl
attribute [local go_sem, local simp] ym
set_option maxRecDepth 100000 in
set_option maxHeartbeats 4000000 in
theorem alike_zero0 {F : List Tw} (ok : Ok F) {b g c : Nat} {A : Option Addr} {w : World} (ha : At w b 69 F) (hx : XAt w g A c (refL F)) (id m : Int) (hal : aliveF F id = true) (hso : isSon F id = false) (hok : lineOk F id m = false) :
    Calls Try.prog 22 #[.pointer (some ⟨b, 0, none⟩), .pointer (some ⟨g, 0, none⟩), .int .i64 id, .int .u64 m] w fun e w' => e = .returned (.bool true) ∧ Below w.heap.size w w' := by
  have hP : parP F id = 0 ∧ parB F id = 0 := by unfold parP parB; rw [hso]; exact ⟨rfl, rfl⟩
  have RA : ∀ w, XAt w g A c (refL F) → Calls Try.prog 29 #[.pointer (some ⟨g, 0, none⟩), .int .i64 id] w fun e w' => e = .returned (.bool true) ∧ w = w' := fun w h => by have := ralive_is ok h id; rwa [hal] at this
  have FA : ∀ w, At w b 69 F → Calls Try.prog 21 #[.pointer (some ⟨b, 0, none⟩), .int .i64 id] w fun e w' => e = .returned (.bool true) ∧ w = w' := fun w h => by have := alive_calls F b id _ h; rwa [hal] at this
  have FP : ∀ w, At w b 69 F → Calls Try.prog 16 #[.pointer (some ⟨b, 0, none⟩), .int .i64 id] w fun e w' => e = .returned (.tuple #[.int .i64 0, .int .u64 0, .bool false]) ∧ Drawn0 w w' := fun w h => by have := parent_calls F b id _ h; rwa [hso, hP.1, hP.2] at this
  have FN : ∀ w, At w b 69 F → Calls Try.prog 15 #[.pointer (some ⟨b, 0, none⟩), .int .i64 id] w fun e w' => e = .returned (.tuple #[.int .u64 (numF F id), .bool true]) ∧ w = w' := fun w h => by have := num_calls F b id _ h; rwa [hal] at this
  have RF : ∀ w, XAt w g A c (refL F) → Calls Try.prog 34 #[.pointer (some ⟨g, 0, none⟩), .int .i64 id] w fun e w' => e = .returned (.int .i64 (-1)) ∧ w = w' := fun w h => by have := rfind_is ok h id; rwa [if_neg (by rw [hso]; decide)] at this
  have RN : ∀ w, XAt w g A c (refL F) → Calls Try.prog 36 #[.pointer (some ⟨g, 0, none⟩), .int .i64 id] w fun e w' => e = .returned (.int .u64 (numF F id)) ∧ w = w' := fun w h => rnum_is ok h id
  have hno : aliveF F id = false ∨ m < (tw F id).n := by
    unfold lineOk at hok
    cases h : aliveF F id with
    | false => exact .inl rfl
    | true => rw [h] at hok; exact .inr (by simpa using hok)
  have FL : ∀ w, At w b 69 F → Calls Try.prog 14 #[.pointer (some ⟨b, 0, none⟩), .int .i64 id, .int .u64 m] w fun e w' => e = .returned (.tuple #[.slice none 0 0, .int .i64 4]) ∧ w = w' := fun w h => line_no F b id m w h hno
  have RL : ∀ w, XAt w g A c (refL F) → Calls Try.prog 37 #[.pointer (some ⟨g, 0, none⟩), .int .i64 id, .int .u64 m] w fun e w' => e = .returned (.tuple #[.slice none 0 0, .bool false]) ∧ w = w' := fun w h => rline_no ok h id m hno
  clear hno
  have KC : ∀ w, At w b 69 F → Calls Try.prog 19 #[.pointer (some ⟨b, 0, none⟩), .int .i64 id] w fun e w' => e = .returned (.int .i64 (kidsF F id : Nat)) ∧ Below w.heap.size w w' := fun w h => kids_calls F b id w h
  have RK : ∀ w, XAt w g A c (refL F) → Calls Try.prog 35 #[.pointer (some ⟨g, 0, none⟩), .int .i64 id] w fun e w' => e = .returned (.int .i64 (kidsF F id : Nat)) ∧ w = w' := fun w h => rkids_is ok h id
  generalize kidsF F id = kd at *
  generalize numF F id = nf at *
  replace RA := Lib.hid RA
  replace FA := Lib.hid FA
  replace FP := Lib.hid FP
  replace FN := Lib.hid FN
  replace RF := Lib.hid RF
  replace FL := Lib.hid FL
  replace RL := Lib.hid RL
  replace KC := Lib.hid KC
  replace RK := Lib.hid RK
  replace RN := Lib.hid RN
  have HA := Lib.hid ha
  have HX := Lib.hid hx
  have HB := Lib.hid (Below.refl w.heap.size w)
  clear hal hso hP ha hx hok ok
  go_enter Try.func22, Try.ntmps22
  go_wp2_with (first
    | (go_at_call 29; refine (RA.out _ HX.out).mono ?_; rintro e w' ⟨rfl, rfl⟩)
    | (go_at_call 21; refine (FA.out _ HA.out).mono ?_; rintro e w' ⟨rfl, rfl⟩)
    | (go_at_call 16; refine (FP.out _ HA.out).mono ?_; (rintro e w' ⟨rfl, ⟨mm, rfl⟩⟩; have HA : Hid (At (w.drewN mm) b 69 F) := HA; have HX : Hid (XAt (w.drewN mm) g A c (refL F)) := Lib.hid (drewX HX.out mm); have HB : Hid (Below w.heap.size w (w.drewN mm)) := Lib.hid (pw_below_drewN (Below.refl _ _) mm); generalize w.drewN mm = wd at *))
    | (go_at_call 15; refine (FN.out _ HA.out).mono ?_; rintro e w' ⟨rfl, rfl⟩)
    | (go_at_call 34; refine (RF.out _ HX.out).mono ?_; rintro e w' ⟨rfl, rfl⟩)
    | (go_at_call 35; refine (RK.out _ HX.out).mono ?_; rintro e w' ⟨rfl, rfl⟩)
    | (go_at_call 19; refine (KC.out _ HA.out).mono ?_; rintro e w1 ⟨rfl, hb1⟩; replace HA := Lib.hid (HA.out.below hb1); replace HX := Lib.hid (HX.out.below hb1); replace HB := Lib.hid (below_then HB.out HB.out.size hb1); clear hb1)
    | (go_at_call 36; refine (RN.out _ HX.out).mono ?_; rintro e w' ⟨rfl, rfl⟩)
    | (go_at_call 14; refine (FL.out _ HA.out).mono ?_; rintro e w' ⟨rfl, rfl⟩)
    | (go_at_call 37; refine (RL.out _ HX.out).mono ?_; rintro e w' ⟨rfl, rfl⟩))
  go_loop [20] (fun v20 => v20 = .int .i64 0) (fun _ => 0)
  case atStart => rfl
  case round =>
    subst hrel
    go_wp2
    go_ret
    exact ⟨rfl, HB.out⟩
end Go.Proofs.Ytaolpniigjmccaa.All
