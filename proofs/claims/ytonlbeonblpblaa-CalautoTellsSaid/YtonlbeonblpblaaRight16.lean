/-
  Is a calendar right, of rules that are, at most sixteen? No condition but that the rules lie as their row says.
-/
import Derived.Test.YtonlbeonblpblaaAwake
namespace Go.Proofs.Ytonlbeonblpblaa.All
open Go.RowKit Go.Proofs.YtonlbeonblpblaaW.PrintWords Go.Proofs.YtonlbeonblpblaaW.PrintLast Go.Proofs.YtonlbeonblpblaaW.PrintMore Go.Proofs.Ytonlbeonblpblaa.Wd
set_option linter.unusedVariables false
set_option linter.unusedSimpArgs false
private theorem ym (motive : Option Value → Sort _) (h1 : (b : Bool) → motive (some (.bool b))) (h2 : (x : Option Value) → motive x) : Go.yielded.match_1 motive (some undef) h1 h2 = h2 (some undef) := rfl
attribute [local go_sem, local simp] ym
def rightL (L : List Ru) : Bool := decide (L.length ≤ 16) && L.all rightB
def rightV (L : List Ru) : Int := if rightL L = true then 1 else 0
theorem rightV_yes {L : List Ru} (h : rightL L = true) : rightV L = 1 := by unfold rightV; rw [if_pos h]
theorem rightV_no {L : List Ru} (h : rightL L = false) : rightV L = 0 := by unfold rightV; rw [h]; rfl
set_option maxRecDepth 100000 in
set_option maxHeartbeats 2000000 in
theorem right16_calls {L : List Ru} {A0 : Option Addr} {c0 : Nat} {w : World} (hR : RuRow w w.heap.size A0 L) (hl : L.length ≤ maxLen) :
    Calls Try.prog 12 #[.slice A0 L.length c0] w fun e w' => e = .returned (.int .i64 (rightV L)) ∧ Below w.heap.size w w' := by
  have RC := Lib.hid (fun (r : Ru) (w : World) => right_calls r w)
  replace hR := Lib.hid hR
  unfold maxLen at hl
  go_enter Try.func12, Try.ntmps12
  go_wp2
  go_loopw [3] (fun v3 wr => ∃ i : Nat, v3 = .int .i64 i ∧ i ≤ L.length ∧ i ≤ 20 ∧ Hid (Below w.heap.size w wr) ∧ Hid ((L.take i).all rightB = true)) (fun v3 _ => 20 - (intOf v3).toNat)
  case atStart => exact ⟨0, rfl, Nat.zero_le _, Nat.zero_le _, Lib.hid (Below.refl _ _), Lib.hid rfl⟩
  case round =>
    obtain ⟨i, rfl, hi, hi20, HB, HA⟩ := hrel
    by_cases hlt : i < L.length ∧ i < 20
    · obtain ⟨hlt, h20⟩ := hlt
      obtain ⟨ad, rfl, hadb, hra⟩ := (hR.out.below HB.out) (by omega)
      obtain ⟨c0, c1, c2⟩ := hra i hlt
      have hd1 : decide ((i : Int) < (L.length : Int)) = true := decide_eq_true (by omega)
      have hd2 : decide ((i : Int) < 20) = true := decide_eq_true (by omega)
      have hd3 : decide (i < L.length) = true := decide_eq_true hlt
      have hd4 : decide (i < 20) = true := decide_eq_true h20
      cases hr : rightB L[i] with
      | true =>
        have HA2 := Lib.hid (show (L.take (i + 1)).all rightB = true by rw [List.take_succ_eq_append_getElem hlt, List.all_append, HA.out]; simp [hr])
        have RR := RC.out L[i]
        rw [hr] at RR
        replace RR := Lib.hid RR
        clear hra hr
        generalize L[i] = r at *
        go_wp2_with (go_at_call 13; refine (RR.out _).mono ?_; rintro e w3 ⟨rfl, hb3⟩; replace HB := Lib.hid (HB.out.trans (hb3.mono HB.out.size)); clear hb3)
        go_roundw
        case rel => exact ⟨i + 1, by go_num, by omega, by omega, HB, HA2⟩
        case measure => simp [intOf]; omega
      | false =>
        have e1 := Lib.hid (show rightV L = 0 from rightV_no (by
          unfold rightL
          have : L.all rightB = false := by
            rw [List.all_eq_false]
            exact ⟨L[i], List.getElem_mem hlt, by simp [hr]⟩
          rw [this]; simp))
        have RR := RC.out L[i]
        rw [hr] at RR
        replace RR := Lib.hid RR
        clear hra hr
        generalize L[i] = r at *
        go_wp2_with (go_at_call 13; refine (RR.out _).mono ?_; rintro e w3 ⟨rfl, hb3⟩; replace HB := Lib.hid (HB.out.trans (hb3.mono HB.out.size)); clear hb3)
        go_ret
        exact ⟨by rw [e1.out]; rfl, HB.out⟩
    · by_cases h16 : L.length ≤ 16
      · obtain rfl : i = L.length := by omega
        have e1 := Lib.hid (show rightV L = 1 from rightV_yes (by
          have := HA.out
          rw [List.take_length] at this
          unfold rightL
          rw [this, decide_eq_true h16]; rfl))
        clear HA
        go_wp2
        go_ret
        exact ⟨by rw [e1.out]; rfl, HB.out⟩
      · have e1 := Lib.hid (show rightV L = 0 from rightV_no (by unfold rightL; rw [decide_eq_false h16]; rfl))
        have hd5 : decide ((16 : Int) < (L.length : Int)) = true := decide_eq_true (by omega)
        have hd6 : decide (16 < L.length) = true := decide_eq_true (by omega)
        clear HA
        by_cases hx : i < L.length
        · obtain rfl : i = 20 := by omega
          go_wp2
          go_ret
          exact ⟨by rw [e1.out]; rfl, HB.out⟩
        · obtain rfl : i = L.length := by omega
          clear hlt
          go_wp2
          go_ret
          exact ⟨by rw [e1.out]; rfl, HB.out⟩
end Go.Proofs.Ytonlbeonblpblaa.All
