/-
  The Go function front (how many bytes at the begin of a text are of a kind), at the two kinds that Lex asks for. Condition: the text is no longer than Go's greatest length.
-/
import Derived.Test.YtonlbeonblpblaaDoorAllx0
import Derived.Test.YtonlbeonblpblaaDoorAllx4
import Derived.Outline
namespace Go.Proofs.YtonlbeonblpblaaDoor.All
open Go.RowKit Go.Proofs.YtonlbeonblpblaaDoorW.PrintWords Go.Proofs.YtonlbeonblpblaaDoorW.PrintLast Go.Proofs.YtonlbeonblpblaaDoorW.PrintMore
set_option linter.unusedVariables false
set_option linter.unusedSimpArgs false

def isLet (c : Int) : Bool := decide (97 ≤ c) && decide (c ≤ 122)
def isDig (c : Int) : Bool := decide (48 ≤ c) && decide (c ≤ 57)
def isBoth (c : Int) : Bool := isDig c || isLet c
/-- From a place on: how far a kind goes. -/
def run (p : Int → Bool) (s : ByteArray) : Nat → Nat → Nat
  | 0, n => n
  | d + 1, n => if p (bt s n) = true then run p s d (n + 1) else n
def caltok_front_letter.f (a0 : ByteArray) : Option Int := if a0.size ≤ 9223372036854775807 then some (run isLet a0 a0.size 0) else none
def caltok_front_both.f (a0 : ByteArray) : Option Int := if a0.size ≤ 9223372036854775807 then some (run isBoth a0 a0.size 0) else none
theorem letter_is (c : Int) : caltok_letter.f c = some (isLet c) := by
  unfold caltok_letter.f isLet
  by_cases h : c ≥ 97
  · rw [if_pos h]; simp [h]
  · rw [if_neg h]; simp [h]
theorem digit_is (c : Int) : caltok_digit.f c = some (isDig c) := by
  unfold caltok_digit.f isDig
  by_cases h : c ≥ 48
  · rw [if_pos h]; simp [h]
  · rw [if_neg h]; simp [h]

set_option maxHeartbeats 1000000 in
set_option maxRecDepth 100000 in
theorem caltok_front_letter.calls (a0 : ByteArray) (r : Int) (w : World) (h : caltok_front_letter.f a0 = some r) :
    Calls Tryd.prog 39 #[.string a0, .func (.func 38) #[] #[]] w fun e w' => e = .returned (.int .i64 r) ∧ Drawn0 w w' := by
  unfold caltok_front_letter.f at h
  by_cases hs : a0.size ≤ 9223372036854775807
  · rw [if_pos hs] at h
    have hr : r = (run isLet a0 a0.size 0 : Nat) := (Option.some.inj h).symm
    have HS := Aside0.mk hs
    have HR := Aside0.mk hr
    clear h hs hr
    go_enter Tryd.func39, Tryd.ntmps39
    go_wp2
    go_loopw [5] (fun n wr => ∃ x : Int, n = .int .i64 x ∧ Aside0 (0 ≤ x ∧ x ≤ a0.size ∧ run isLet a0 (a0.size - x.toNat) x.toNat = run isLet a0 a0.size 0) ∧ Drawn0 w wr) (fun n _ => a0.size - (intOf n).toNat)
    case atStart => exact ⟨0, rfl, ⟨by simp⟩, Drawn0.refl _⟩
    case round =>
      obtain ⟨x, rfl, HK, HD⟩ := hrel
      have HX := HK.out.1
      by_cases hlt : x < a0.size
      · have q0 : decide (x < (a0.size : Int)) = true := decide_eq_true hlt
        have hw : wrap64 (x + 1) = x + 1 := by have := HS.out; unfold wrap64; omega
        have HW := Aside0.mk hw
        have HL := Aside0.mk hlt
        have HX' := Aside0.mk HX
        have hx := bt_at a0 x
        replace HX := eq_true HX
        replace hlt := eq_true hlt
        clear hw
        cases hp : isLet (bt a0 x) with
        | true =>
          have HP := Aside0.mk hp
          clear hp
          go_wp2_with (go_at_call 38; (with_reducible refine (caltok_letter.calls (bt a0 x) true _ ((letter_is _).trans (congrArg some HP.out))).mono ?_); rintro e w' ⟨rfl, ⟨nd, rfl⟩⟩)
          go_roundw
          case rel =>
            refine ⟨x + 1, by first | rfl | (rw [HW.out]) | (simp [HW.out]), ⟨?_, ?_, ?_⟩, HD.step _⟩
            · have := HX'.out; omega
            · have := HL.out; omega
            · have h2 := HK.out.2.2
              have h3 := HX'.out
              have h4 := HL.out
              have e1 : ((x.toNat : Nat) : Int) = x := by omega
              rw [show a0.size - x.toNat = (a0.size - (x + 1).toNat) + 1 by omega, run, e1, if_pos HP.out, show x.toNat + 1 = (x + 1).toNat by omega] at h2
              exact h2
          case measure =>
            have h3 := HX'.out
            have h4 := HL.out
            have h5 := HW.out
            simp [intOf, h5]
            omega
        | false =>
          have HP := Aside0.mk hp
          clear hp
          go_wp2_with (go_at_call 38; (with_reducible refine (caltok_letter.calls (bt a0 x) false _ ((letter_is _).trans (congrArg some HP.out))).mono ?_); rintro e w' ⟨rfl, ⟨nd, rfl⟩⟩)
          go_ret
          refine ⟨?_, HD.step _⟩
          have h2 := HK.out.2.2
          have h3 := HX'.out
          have h4 := HL.out
          have e1 : ((x.toNat : Nat) : Int) = x := by omega
          rw [show a0.size - x.toNat = (a0.size - (x + 1).toNat) + 1 by omega, run, e1, if_neg (by rw [HP.out]; decide)] at h2
          rw [HR.out, ← h2, e1]
          rfl
      · have q0 : decide (x < (a0.size : Int)) = false := decide_eq_false hlt
        have HL := Aside0.mk hlt
        clear hlt
        go_wp2
        go_ret
        refine ⟨?_, HD⟩
        have h2 := HK.out
        have h4 := HL.out
        obtain rfl : x = a0.size := by omega
        have h3 := h2.2.2
        rw [Int.toNat_natCast, Nat.sub_self] at h3
        rw [HR.out, ← h3]
        rfl
  · rw [if_neg hs] at h
    cases h
def caltok_Lex_1.f (c : Int) : Option Bool := some (isBoth c)
theorem both_is (c : Int) : caltok_Lex_1.f c = some (isBoth c) := rfl
set_option maxHeartbeats 1000000 in
set_option maxRecDepth 100000 in
theorem caltok_Lex_1.calls (a0 : Int) (r : Bool) (w : World) (h : caltok_Lex_1.f a0 = some r) :
    Calls Tryd.prog 41 #[.int .u8 a0] w fun e w' => e = .returned (.bool r) ∧ Drawn0 w w' := by
  have hr : r = isBoth a0 := (Option.some.inj h).symm
  have HR := Aside0.mk hr
  clear h hr
  cases hd : isDig a0 with
  | true =>
    have HP := Aside0.mk hd
    clear hd
    go_enter Tryd.func41, Tryd.ntmps41
    go_wp2_with (go_at_call 40; (with_reducible refine (caltok_digit.calls a0 true _ ((digit_is _).trans (congrArg some HP.out))).mono ?_); rintro e w' ⟨rfl, ⟨nd, rfl⟩⟩)
    go_ret
    refine ⟨?_, by repeat (first | exact Drawn0.refl _ | apply Drawn0.step)⟩
    rw [HR.out, isBoth, HP.out]
    rfl
  | false =>
    have HP := Aside0.mk hd
    clear hd
    cases hl : isLet a0 with
    | true =>
      have HQ := Aside0.mk hl
      clear hl
      go_enter Tryd.func41, Tryd.ntmps41
      go_wp2_with (first | (go_at_call 40; (with_reducible refine (caltok_digit.calls a0 false _ ((digit_is _).trans (congrArg some HP.out))).mono ?_); rintro e w' ⟨rfl, ⟨nd, rfl⟩⟩) | (go_at_call 38; (with_reducible refine (caltok_letter.calls a0 true _ ((letter_is _).trans (congrArg some HQ.out))).mono ?_); rintro e w' ⟨rfl, ⟨nd2, rfl⟩⟩))
      go_ret
      refine ⟨?_, by repeat (first | exact Drawn0.refl _ | apply Drawn0.step)⟩
      rw [HR.out, isBoth, HP.out, HQ.out]
      rfl
    | false =>
      have HQ := Aside0.mk hl
      clear hl
      go_enter Tryd.func41, Tryd.ntmps41
      go_wp2_with (first | (go_at_call 40; (with_reducible refine (caltok_digit.calls a0 false _ ((digit_is _).trans (congrArg some HP.out))).mono ?_); rintro e w' ⟨rfl, ⟨nd, rfl⟩⟩) | (go_at_call 38; (with_reducible refine (caltok_letter.calls a0 false _ ((letter_is _).trans (congrArg some HQ.out))).mono ?_); rintro e w' ⟨rfl, ⟨nd2, rfl⟩⟩))
      go_ret
      refine ⟨?_, by repeat (first | exact Drawn0.refl _ | apply Drawn0.step)⟩
      rw [HR.out, isBoth, HP.out, HQ.out]
      rfl
set_option maxHeartbeats 1000000 in
set_option maxRecDepth 100000 in
theorem caltok_front_both.calls (a0 : ByteArray) (r : Int) (w : World) (h : caltok_front_both.f a0 = some r) :
    Calls Tryd.prog 39 #[.string a0, .func (.func 41) #[] #[]] w fun e w' => e = .returned (.int .i64 r) ∧ Drawn0 w w' := by
  unfold caltok_front_both.f at h
  by_cases hs : a0.size ≤ 9223372036854775807
  · rw [if_pos hs] at h
    have hr : r = (run isBoth a0 a0.size 0 : Nat) := (Option.some.inj h).symm
    have HS := Aside0.mk hs
    have HR := Aside0.mk hr
    clear h hs hr
    go_enter Tryd.func39, Tryd.ntmps39
    go_wp2
    go_loopw [5] (fun n wr => ∃ x : Int, n = .int .i64 x ∧ Aside0 (0 ≤ x ∧ x ≤ a0.size ∧ run isBoth a0 (a0.size - x.toNat) x.toNat = run isBoth a0 a0.size 0) ∧ Drawn0 w wr) (fun n _ => a0.size - (intOf n).toNat)
    case atStart => exact ⟨0, rfl, ⟨by simp⟩, Drawn0.refl _⟩
    case round =>
      obtain ⟨x, rfl, HK, HD⟩ := hrel
      have HX := HK.out.1
      by_cases hlt : x < a0.size
      · have q0 : decide (x < (a0.size : Int)) = true := decide_eq_true hlt
        have hw : wrap64 (x + 1) = x + 1 := by have := HS.out; unfold wrap64; omega
        have HW := Aside0.mk hw
        have HL := Aside0.mk hlt
        have HX' := Aside0.mk HX
        have hx := bt_at a0 x
        replace HX := eq_true HX
        replace hlt := eq_true hlt
        clear hw
        cases hp : isBoth (bt a0 x) with
        | true =>
          have HP := Aside0.mk hp
          clear hp
          go_wp2_with (go_at_call 41; (with_reducible refine (caltok_Lex_1.calls (bt a0 x) true _ ((both_is _).trans (congrArg some HP.out))).mono ?_); rintro e w' ⟨rfl, ⟨nd, rfl⟩⟩)
          go_roundw
          case rel =>
            refine ⟨x + 1, by first | rfl | (rw [HW.out]) | (simp [HW.out]), ⟨?_, ?_, ?_⟩, HD.step _⟩
            · have := HX'.out; omega
            · have := HL.out; omega
            · have h2 := HK.out.2.2
              have h3 := HX'.out
              have h4 := HL.out
              have e1 : ((x.toNat : Nat) : Int) = x := by omega
              rw [show a0.size - x.toNat = (a0.size - (x + 1).toNat) + 1 by omega, run, e1, if_pos HP.out, show x.toNat + 1 = (x + 1).toNat by omega] at h2
              exact h2
          case measure =>
            have h3 := HX'.out
            have h4 := HL.out
            have h5 := HW.out
            simp [intOf, h5]
            omega
        | false =>
          have HP := Aside0.mk hp
          clear hp
          go_wp2_with (go_at_call 41; (with_reducible refine (caltok_Lex_1.calls (bt a0 x) false _ ((both_is _).trans (congrArg some HP.out))).mono ?_); rintro e w' ⟨rfl, ⟨nd, rfl⟩⟩)
          go_ret
          refine ⟨?_, HD.step _⟩
          have h2 := HK.out.2.2
          have h3 := HX'.out
          have h4 := HL.out
          have e1 : ((x.toNat : Nat) : Int) = x := by omega
          rw [show a0.size - x.toNat = (a0.size - (x + 1).toNat) + 1 by omega, run, e1, if_neg (by rw [HP.out]; decide)] at h2
          rw [HR.out, ← h2, e1]
          rfl
      · have q0 : decide (x < (a0.size : Int)) = false := decide_eq_false hlt
        have HL := Aside0.mk hlt
        clear hlt
        go_wp2
        go_ret
        refine ⟨?_, HD⟩
        have h2 := HK.out
        have h4 := HL.out
        obtain rfl : x = a0.size := by omega
        have h3 := h2.2.2
        rw [Int.toNat_natCast, Nat.sub_self] at h3
        rw [HR.out, ← h3]
        rfl
  · rw [if_neg hs] at h
    cases h
end Go.Proofs.YtonlbeonblpblaaDoor.All
