/-
  The Go function Minutes (caltok), which reads the package's table of units. Conditions: the table holds m, h and d; the text is no longer than Go's greatest length.
-/
import Derived.Test.YtonlbeonblpblaaDoorFront
import Derived.Maps.OwnOps
namespace Go.Proofs.YtonlbeonblpblaaDoor.All
open Go.RowKit Go.Proofs.YtonlbeonblpblaaDoorW.PrintWords Go.Proofs.YtonlbeonblpblaaDoorW.PrintLast Go.Proofs.YtonlbeonblpblaaDoorW.PrintMore
set_option linter.unusedVariables false
set_option linter.unusedSimpArgs false

def isUnit (c : Int) : Bool := decide (c = 109) || (decide (c = 104) || decide (c = 100))
def unit (c : Int) : Int := if c = 109 then 1 else if c = 104 then 60 else if c = 100 then 1440 else 0
theorem unit_range (c : Int) : 0 ≤ unit c ∧ unit c ≤ 1440 := by
  unfold unit
  split
  · omega
  · split
    · omega
    · split <;> omega
/-- The package's table of units, as its initialiser lays it. -/
def Units (w : World) : Prop := ∃ (bm : Nat) (es : Array MapEntry) (clock : Nat), w.cell? ⟨0, 0, none⟩ = some (.map (some bm)) ∧ w.heap[bm]? = some (.map es clock) ∧
  ∀ (W : World), W.heap[bm]? = some (.map es clock) → ∀ c : Int, 0 ≤ c → c ≤ 255 → (Instr.lookup 108 (.map (some bm)) (.int .u8 c) true).run Tryd.prog W = .ok (.tuple #[.int .i64 (unit c), .bool (isUnit c)]) W
theorem Units.below {w w1 : World} (h : Units w) (hb : Below w.heap.size w w1) : Units w1 := by
  obtain ⟨bm, es, clock, hc, hm, hl⟩ := h
  exact ⟨bm, es, clock, pw_cell_below hb hc, (hb.block bm (Array.getElem?_eq_some_iff.1 hm).1).trans hm, hl⟩

/-- The digits' number, from a place on. -/
def minRun (s : ByteArray) (ok : Bool) : Nat → Nat → Int → Option Int
  | 0, _, n => some n
  | d + 1, i, n => if ok = true then if isDig (bt s i) = true then if n > 1073741824 then none else minRun s ok d (i + 1) (10 * n + (bt s i - 48)) else none else none
def minEnd (c : Int) : Option Int → Int × Bool
  | none => (0, false)
  | some n => if isUnit c = true then if n * unit c > 1073741824 then (0, false) else (n * unit c, true) else (0, false)
def minutesP (s : ByteArray) : Int × Bool :=
  if s.size < 2 then (0, false)
  else if bt s 0 = 48 ∧ 2 < s.size then (0, false)
  else minEnd (bt s (s.size - 1)) (minRun s (isUnit (bt s (s.size - 1))) (s.size - 1) 0 0)
def caltok_Minutes.f (a0 : ByteArray) : Option (Int × Bool) := if a0.size ≤ 9223372036854775807 then some (minutesP a0) else none

set_option maxHeartbeats 2000000 in
set_option maxRecDepth 100000 in
theorem caltok_Minutes.calls (a0 : ByteArray) (r1 : Int) (r2 : Bool) (w : World) (hU : Units w) (h : caltok_Minutes.f a0 = some (r1, r2)) :
    Calls Tryd.prog 42 #[.string a0] w fun e w' => e = .returned (.tuple #[.int .i64 r1, .bool r2]) ∧ Drawn0 w w' := by
  unfold caltok_Minutes.f at h
  by_cases hs : a0.size ≤ 9223372036854775807
  · rw [if_pos hs] at h
    have hr := Option.some.inj h
    have HS := Aside0.mk hs
    clear h hs
    unfold minutesP at hr
    by_cases c1 : a0.size < 2
    · rw [if_pos c1] at hr
      obtain ⟨rfl, rfl⟩ := Prod.mk.inj hr
      have q1 : decide ((a0.size : Int) < 2) = true := decide_eq_true (by omega)
      have q2 : decide (a0.size < 2) = true := decide_eq_true c1
      clear c1 hr
      go_enter Tryd.func42, Tryd.ntmps42
      go_wp2
      go_ret2
      exact ⟨rfl, Drawn0.refl _⟩
    · rw [if_neg c1] at hr
      have q1 : decide ((a0.size : Int) < 2) = false := decide_eq_false (by omega)
      have q2 : decide (a0.size < 2) = false := decide_eq_false c1
      have q3 : 0 < a0.size := by omega
      have q4 : (0 : Int) < (a0.size : Int) := by omega
      have hx0 : ∀ h : 0 < a0.size, ((a0[0]'h).toNat : Int) = bt a0 0 := bt_at a0 0
      have Q3 := Aside0.mk q3
      have C1 := Aside0.mk c1
      replace q3 := eq_true q3
      replace q4 := eq_true q4
      by_cases c2 : bt a0 0 = 48 ∧ 2 < a0.size
      · rw [if_pos c2] at hr
        obtain ⟨rfl, rfl⟩ := Prod.mk.inj hr
        have q5 : (bt a0 0 == 48) = true := beq_iff_eq.2 c2.1
        have q6 : decide ((2 : Int) < (a0.size : Int)) = true := decide_eq_true (by omega)
        have q7 : decide (2 < a0.size) = true := decide_eq_true c2.2
        clear c1 hr c2
        go_enter Tryd.func42, Tryd.ntmps42
        go_wp2
        go_ret2
        exact ⟨rfl, Drawn0.refl _⟩
      · rw [if_neg c2] at hr
        clear c1
        have e1 : wrap64 ((a0.size : Int) - 1) = (a0.size : Int) - 1 := by have := HS.out; have := Q3.out; unfold wrap64; omega
        obtain ⟨L, hL⟩ : ∃ j : Int, wrap64 ((a0.size : Int) - 1) = j := ⟨_, rfl⟩
        have hLw : (IntKind.i64.wrap ((a0.size : Int) - 1)) = L := (i64_w _).trans hL
        have EL := Aside0.mk (show L = (a0.size : Int) - 1 from hL.symm.trans e1)
        clear e1
        rw [show ((a0.size : Int) - 1) = L from EL.out.symm] at hr
        have HR := Aside0.mk hr
        clear hr
        have hxL := bt_at a0 L
        have pL : (0 ≤ L) = True := eq_true (by have := EL.out; have := Q3.out; omega)
        have qL : (L < (a0.size : Int)) = True := eq_true (by have := EL.out; omega)
        obtain ⟨bm, es, clock, hc, hm, hl⟩ := hU
        have hlook := fun (W : World) (hW : W.heap[bm]? = some (.map es clock)) => hl W hW (bt a0 L) (bt_range a0 L).1 (bt_range a0 L).2
        have HM := Aside0.mk hm
        have HLK := Aside0.mk hlook
        clear hm hlook hl
        have hrun : ∀ n : Nat, (Instr.lookup 108 (.map (some bm)) (.int .u8 (bt a0 L)) true).run Tryd.prog (w.drewN n) = .ok (.tuple #[.int .i64 (unit (bt a0 L)), .bool (isUnit (bt a0 L))]) (w.drewN n) := fun n => HLK.out (w.drewN n) HM.out
        have KEY : ∀ (q48 : Bool), (bt a0 0 == 48) = q48 → (q48 = true → decide ((2 : Int) < (a0.size : Int)) = false ∧ decide (2 < a0.size) = false) → Calls Tryd.prog 42 #[.string a0] w fun e w' => e = .returned (.tuple #[.int .i64 r1, .bool r2]) ∧ Drawn0 w w' := by
          intro q48 h48 hq
          have HU := Aside0.mk (unit_range (bt a0 L))
          obtain ⟨z1, hz1⟩ : ∃ z, a0.size - 1 = z := ⟨_, rfl⟩
          have HZ := Aside0.mk (show (z1 : Int) = L by have := EL.out; have := Q3.out; omega)
          have HZ1 := Aside0.mk (show 1 ≤ z1 by have := C1.out; omega)
          rw [hz1] at HR
          clear hz1
          cases hok : isUnit (bt a0 L) with
          | false =>
            rw [hok] at HR
            have hrun2 : ∀ n : Nat, (Instr.lookup 108 (.map (some bm)) (.int .u8 (bt a0 L)) true).run Tryd.prog (w.drewN n) = .ok (.tuple #[.int .i64 (unit (bt a0 L)), .bool false]) (w.drewN n) := fun n => by rw [hrun n, hok]
            have HR2 : Aside0 ((0, false) = (r1, r2)) := ⟨by
              rw [← HR.out]
              obtain ⟨z0, rfl⟩ : ∃ z0, z1 = z0 + 1 := ⟨z1 - 1, by have := HZ1.out; omega⟩
              simp [minRun, minEnd]⟩
            obtain ⟨rfl, rfl⟩ := Prod.mk.inj HR2.out
            have qz : decide ((0 : Int) < L) = true := decide_eq_true (by have := HZ.out; have := HZ1.out; omega)
            clear HR2 hrun hok
            cases q48 with
            | false =>
              clear hq
              go_enter Tryd.func42, Tryd.ntmps42
              go_wp2
              go_quiet (fail)
              go_wp2
              go_loopw [7] (fun i wr => i = .int .i64 0 ∧ Drawn0 w wr) (fun _ _ => 0)
              case atStart => exact ⟨rfl, by repeat (first | exact Drawn0.refl _ | apply Drawn0.step)⟩
              case round =>
                obtain ⟨rfl, HD⟩ := hrel
                go_wp2
                go_ret2
                exact ⟨rfl, HD⟩
            | true =>
              obtain ⟨q6, q7⟩ := hq rfl
              clear hq
              go_enter Tryd.func42, Tryd.ntmps42
              go_wp2
              go_quiet (fail)
              go_wp2
              go_loopw [7] (fun i wr => i = .int .i64 0 ∧ Drawn0 w wr) (fun _ _ => 0)
              case atStart => exact ⟨rfl, by repeat (first | exact Drawn0.refl _ | apply Drawn0.step)⟩
              case round =>
                obtain ⟨rfl, HD⟩ := hrel
                go_wp2
                go_ret2
                exact ⟨rfl, HD⟩
          | true =>
            rw [hok] at HR
            have hrun2 : ∀ n : Nat, (Instr.lookup 108 (.map (some bm)) (.int .u8 (bt a0 L)) true).run Tryd.prog (w.drewN n) = .ok (.tuple #[.int .i64 (unit (bt a0 L)), .bool true]) (w.drewN n) := fun n => by rw [hrun n, hok]
            have HOK := Aside0.mk hok
            clear hrun hok
            cases q48 with
            | false =>
              clear hq
              go_enter Tryd.func42, Tryd.ntmps42
              go_wp2
              go_quiet (fail)
              go_wp2
              go_loopw [6, 7] (fun n i wr => ∃ x m : Int, i = .int .i64 x ∧ n = .int .i64 m ∧ Aside0 (0 ≤ x ∧ x ≤ L ∧ 0 ≤ m ∧ m ≤ 10737418249 ∧ minRun a0 true (L - x).toNat x.toNat m = minRun a0 true z1 0 0) ∧ Drawn0 w wr) (fun _ i _ => (L - intOf i).toNat)
              case atStart => exact ⟨0, 0, rfl, rfl, ⟨by have := HZ.out; omega, by have := HZ.out; omega, by omega, by omega, by rw [show (L - 0).toNat = z1 by have := HZ.out; omega]; rfl⟩, by repeat (first | exact Drawn0.refl _ | apply Drawn0.step)⟩
              case round =>
                obtain ⟨x, m, rfl, rfl, HK, HD⟩ := hrel
                obtain ⟨k0, k1, k2, k3, k4⟩ := HK.out
                have K4 := Aside0.mk k4
                clear k4 HK
                by_cases hx : x < L
                · have q0 : decide (x < L) = true := decide_eq_true hx
                  have bx := bt_at a0 x
                  have br := bt_range a0 x
                  have HX := Aside0.mk hx
                  have K0 := Aside0.mk k0
                  have hxs : x < (a0.size : Int) := by have := EL.out; omega
                  have e1 : (L - x).toNat = (L - (x + 1)).toNat + 1 := by omega
                  have e2 : ((x.toNat : Nat) : Int) = x := by omega
                  have e3 : x.toNat + 1 = (x + 1).toNat := by omega
                  have E := Aside0.mk (And.intro e1 (And.intro e2 e3))
                  have hwx : wrap64 (x + 1) = x + 1 := by have := HS.out; unfold wrap64; omega
                  replace k0 := eq_true k0
                  replace hxs := eq_true hxs
                  clear e1 e2 e3 hx
                  cases hp : isDig (bt a0 x) with
                  | false =>
                    have HP := Aside0.mk hp
                    clear hp
                    have HR2 : Aside0 ((0, false) = (r1, r2)) := ⟨by
                      rw [← HR.out, ← K4.out, E.out.1, minRun, if_pos rfl, E.out.2.1, if_neg (by rw [HP.out]; decide)]
                      rfl⟩
                    obtain ⟨rfl, rfl⟩ := Prod.mk.inj HR2.out
                    clear HR2
                    go_wp2_with (go_at_call 40; (with_reducible refine (caltok_digit.calls (bt a0 x) false _ ((digit_is _).trans (congrArg some HP.out))).mono ?_); rintro e w' ⟨rfl, ⟨nd, rfl⟩⟩)
                    go_ret2
                    exact ⟨rfl, HD.step _⟩
                  | true =>
                    have HP := Aside0.mk hp
                    have hd1 : 48 ≤ bt a0 x ∧ bt a0 x ≤ 57 := by simpa [isDig] using hp
                    clear hp
                    by_cases hm : m > 1073741824
                    · have q1 : decide (m > 1073741824) = true := decide_eq_true hm
                      have HR2 : Aside0 ((0, false) = (r1, r2)) := ⟨by
                        rw [← HR.out, ← K4.out, E.out.1, minRun, if_pos rfl, E.out.2.1, if_pos HP.out, if_pos hm]
                        rfl⟩
                      obtain ⟨rfl, rfl⟩ := Prod.mk.inj HR2.out
                      clear HR2
                      go_wp2_with (go_at_call 40; (with_reducible refine (caltok_digit.calls (bt a0 x) true _ ((digit_is _).trans (congrArg some HP.out))).mono ?_); rintro e w' ⟨rfl, ⟨nd, rfl⟩⟩)
                      go_ret2
                      exact ⟨rfl, HD.step _⟩
                    · have q1 : decide (m > 1073741824) = false := decide_eq_false hm
                      have HN : Aside0 (minRun a0 true (L - (x + 1)).toNat (x + 1).toNat (10 * m + (bt a0 x - 48)) = minRun a0 true z1 0 0) := ⟨by
                        rw [← K4.out, E.out.1, minRun, if_pos rfl, E.out.2.1, if_pos HP.out, if_neg hm, E.out.2.2]⟩
                      have hm2 : m ≤ 1073741824 := by omega
                      have h48a := hd1.1
                      have h57a := hd1.2
                      clear hd1 hm
                      go_wp2_with (go_at_call 40; (with_reducible refine (caltok_digit.calls (bt a0 x) true _ ((digit_is _).trans (congrArg some HP.out))).mono ?_); rintro e w' ⟨rfl, ⟨nd, rfl⟩⟩)
                      go_roundw
                      case rel =>
                        refine ⟨x + 1, 10 * m + (bt a0 x - 48), by first | rfl | (rw [hwx]) | (simp [hwx]), by first | rfl | go_num, ⟨?_, ?_, by omega, by omega, HN.out⟩, HD.step _⟩
                        · have := K0.out; omega
                        · have := HX.out; omega
                      case measure =>
                        have h3 := HX.out
                        simp [intOf, hwx]
                        omega
                · have q0 : decide (x < L) = false := decide_eq_false hx
                  have hz0 : (L - x).toNat = 0 := by omega
                  have HZ0 := Aside0.mk hz0
                  have hu1 := HU.out.1
                  have hu2 := HU.out.2
                  have hmul : 0 ≤ m * unit (bt a0 L) ∧ m * unit (bt a0 L) ≤ 10737418249 * 1440 := ⟨Int.mul_nonneg k2 hu1, Int.mul_le_mul k3 hu2 hu1 (by omega)⟩
                  have hwm : wrap64 (m * unit (bt a0 L)) = m * unit (bt a0 L) := by unfold wrap64; omega
                  have HWM := Aside0.mk hwm
                  have HE : Aside0 ((if m * unit (bt a0 L) > 1073741824 then ((0 : Int), false) else (m * unit (bt a0 L), true)) = (r1, r2)) := ⟨by
                    rw [← HR.out, ← K4.out, HZ0.out, minRun, minEnd, if_pos HOK.out]⟩
                  clear hz0 hx hmul hwm
                  by_cases hg : m * unit (bt a0 L) > 1073741824
                  · have hE := HE.out
                    rw [if_pos hg] at hE
                    obtain ⟨rfl, rfl⟩ := Prod.mk.inj hE
                    have q2 : decide (wrap64 (m * unit (bt a0 L)) > 1073741824) = true := decide_eq_true (by rw [HWM.out]; exact hg)
                    clear hE hg HE
                    go_wp2
                    go_ret2
                    exact ⟨rfl, HD⟩
                  · have hE := HE.out
                    rw [if_neg hg] at hE
                    have hE1 := (Prod.mk.inj hE).1
                    have hE2 := (Prod.mk.inj hE).2
                    have HE1 := Aside0.mk (HWM.out.trans hE1)
                    subst hE2
                    have q2 : decide (wrap64 (m * unit (bt a0 L)) > 1073741824) = false := decide_eq_false (by rw [HWM.out]; exact hg)
                    clear hE hE1 hg HE
                    go_wp2
                    go_ret2
                    exact ⟨by rw [← HE1.out]; rfl, HD⟩
            | true =>
              obtain ⟨q6, q7⟩ := hq rfl
              clear hq
              go_enter Tryd.func42, Tryd.ntmps42
              go_wp2
              go_quiet (fail)
              go_wp2
              go_loopw [6, 7] (fun n i wr => ∃ x m : Int, i = .int .i64 x ∧ n = .int .i64 m ∧ Aside0 (0 ≤ x ∧ x ≤ L ∧ 0 ≤ m ∧ m ≤ 10737418249 ∧ minRun a0 true (L - x).toNat x.toNat m = minRun a0 true z1 0 0) ∧ Drawn0 w wr) (fun _ i _ => (L - intOf i).toNat)
              case atStart => exact ⟨0, 0, rfl, rfl, ⟨by have := HZ.out; omega, by have := HZ.out; omega, by omega, by omega, by rw [show (L - 0).toNat = z1 by have := HZ.out; omega]; rfl⟩, by repeat (first | exact Drawn0.refl _ | apply Drawn0.step)⟩
              case round =>
                obtain ⟨x, m, rfl, rfl, HK, HD⟩ := hrel
                obtain ⟨k0, k1, k2, k3, k4⟩ := HK.out
                have K4 := Aside0.mk k4
                clear k4 HK
                by_cases hx : x < L
                · have q0 : decide (x < L) = true := decide_eq_true hx
                  have bx := bt_at a0 x
                  have br := bt_range a0 x
                  have HX := Aside0.mk hx
                  have K0 := Aside0.mk k0
                  have hxs : x < (a0.size : Int) := by have := EL.out; omega
                  have e1 : (L - x).toNat = (L - (x + 1)).toNat + 1 := by omega
                  have e2 : ((x.toNat : Nat) : Int) = x := by omega
                  have e3 : x.toNat + 1 = (x + 1).toNat := by omega
                  have E := Aside0.mk (And.intro e1 (And.intro e2 e3))
                  have hwx : wrap64 (x + 1) = x + 1 := by have := HS.out; unfold wrap64; omega
                  replace k0 := eq_true k0
                  replace hxs := eq_true hxs
                  clear e1 e2 e3 hx
                  cases hp : isDig (bt a0 x) with
                  | false =>
                    have HP := Aside0.mk hp
                    clear hp
                    have HR2 : Aside0 ((0, false) = (r1, r2)) := ⟨by
                      rw [← HR.out, ← K4.out, E.out.1, minRun, if_pos rfl, E.out.2.1, if_neg (by rw [HP.out]; decide)]
                      rfl⟩
                    obtain ⟨rfl, rfl⟩ := Prod.mk.inj HR2.out
                    clear HR2
                    go_wp2_with (go_at_call 40; (with_reducible refine (caltok_digit.calls (bt a0 x) false _ ((digit_is _).trans (congrArg some HP.out))).mono ?_); rintro e w' ⟨rfl, ⟨nd, rfl⟩⟩)
                    go_ret2
                    exact ⟨rfl, HD.step _⟩
                  | true =>
                    have HP := Aside0.mk hp
                    have hd1 : 48 ≤ bt a0 x ∧ bt a0 x ≤ 57 := by simpa [isDig] using hp
                    clear hp
                    by_cases hm : m > 1073741824
                    · have q1 : decide (m > 1073741824) = true := decide_eq_true hm
                      have HR2 : Aside0 ((0, false) = (r1, r2)) := ⟨by
                        rw [← HR.out, ← K4.out, E.out.1, minRun, if_pos rfl, E.out.2.1, if_pos HP.out, if_pos hm]
                        rfl⟩
                      obtain ⟨rfl, rfl⟩ := Prod.mk.inj HR2.out
                      clear HR2
                      go_wp2_with (go_at_call 40; (with_reducible refine (caltok_digit.calls (bt a0 x) true _ ((digit_is _).trans (congrArg some HP.out))).mono ?_); rintro e w' ⟨rfl, ⟨nd, rfl⟩⟩)
                      go_ret2
                      exact ⟨rfl, HD.step _⟩
                    · have q1 : decide (m > 1073741824) = false := decide_eq_false hm
                      have HN : Aside0 (minRun a0 true (L - (x + 1)).toNat (x + 1).toNat (10 * m + (bt a0 x - 48)) = minRun a0 true z1 0 0) := ⟨by
                        rw [← K4.out, E.out.1, minRun, if_pos rfl, E.out.2.1, if_pos HP.out, if_neg hm, E.out.2.2]⟩
                      have hm2 : m ≤ 1073741824 := by omega
                      have h48a := hd1.1
                      have h57a := hd1.2
                      clear hd1 hm
                      go_wp2_with (go_at_call 40; (with_reducible refine (caltok_digit.calls (bt a0 x) true _ ((digit_is _).trans (congrArg some HP.out))).mono ?_); rintro e w' ⟨rfl, ⟨nd, rfl⟩⟩)
                      go_roundw
                      case rel =>
                        refine ⟨x + 1, 10 * m + (bt a0 x - 48), by first | rfl | (rw [hwx]) | (simp [hwx]), by first | rfl | go_num, ⟨?_, ?_, by omega, by omega, HN.out⟩, HD.step _⟩
                        · have := K0.out; omega
                        · have := HX.out; omega
                      case measure =>
                        have h3 := HX.out
                        simp [intOf, hwx]
                        omega
                · have q0 : decide (x < L) = false := decide_eq_false hx
                  have hz0 : (L - x).toNat = 0 := by omega
                  have HZ0 := Aside0.mk hz0
                  have hu1 := HU.out.1
                  have hu2 := HU.out.2
                  have hmul : 0 ≤ m * unit (bt a0 L) ∧ m * unit (bt a0 L) ≤ 10737418249 * 1440 := ⟨Int.mul_nonneg k2 hu1, Int.mul_le_mul k3 hu2 hu1 (by omega)⟩
                  have hwm : wrap64 (m * unit (bt a0 L)) = m * unit (bt a0 L) := by unfold wrap64; omega
                  have HWM := Aside0.mk hwm
                  have HE : Aside0 ((if m * unit (bt a0 L) > 1073741824 then ((0 : Int), false) else (m * unit (bt a0 L), true)) = (r1, r2)) := ⟨by
                    rw [← HR.out, ← K4.out, HZ0.out, minRun, minEnd, if_pos HOK.out]⟩
                  clear hz0 hx hmul hwm
                  by_cases hg : m * unit (bt a0 L) > 1073741824
                  · have hE := HE.out
                    rw [if_pos hg] at hE
                    obtain ⟨rfl, rfl⟩ := Prod.mk.inj hE
                    have q2 : decide (wrap64 (m * unit (bt a0 L)) > 1073741824) = true := decide_eq_true (by rw [HWM.out]; exact hg)
                    clear hE hg HE
                    go_wp2
                    go_ret2
                    exact ⟨rfl, HD⟩
                  · have hE := HE.out
                    rw [if_neg hg] at hE
                    have hE1 := (Prod.mk.inj hE).1
                    have hE2 := (Prod.mk.inj hE).2
                    have HE1 := Aside0.mk (HWM.out.trans hE1)
                    subst hE2
                    have q2 : decide (wrap64 (m * unit (bt a0 L)) > 1073741824) = false := decide_eq_false (by rw [HWM.out]; exact hg)
                    clear hE hE1 hg HE
                    go_wp2
                    go_ret2
                    exact ⟨by rw [← HE1.out]; rfl, HD⟩
        cases h48 : (bt a0 0 == 48) with
        | false => exact KEY false h48 (fun h => by cases h)
        | true => exact KEY true h48 (fun _ => ⟨decide_eq_false (fun h => c2 ⟨beq_iff_eq.1 h48, by omega⟩), decide_eq_false (fun h => c2 ⟨beq_iff_eq.1 h48, h⟩)⟩)
  · rw [if_neg hs] at h
    cases h
end Go.Proofs.YtonlbeonblpblaaDoor.All
