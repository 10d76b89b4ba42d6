/-
  The document's table: where a moment stands. No condition but that the table lies as its rows say, and its numbers rise.
-/
import Derived.Test.YtonlbeonblpblaaKeeps
namespace Go.Proofs.Ytonlbeonblpblaa.All
open Go.RowKit Go.Proofs.YtonlbeonblpblaaW.PrintWords Go.Proofs.YtonlbeonblpblaaW.PrintLast Go.Proofs.YtonlbeonblpblaaW.PrintMore Go.Proofs.Ytonlbeonblpblaa.Wd
set_option linter.unusedVariables false
set_option linter.unusedSimpArgs false
private theorem ym (motive : Option Value → Sort _) (h1 : (b : Bool) → motive (some (.bool b))) (h2 : (x : Option Value) → motive x) : Go.yielded.match_1 motive (some undef) h1 h2 = h2 (some undef) := rfl
attribute [local go_sem, local simp] ym
/-- Where the document finds a number. -/
def findD (M : List It) (num : Int) : Int := if hit M num = true then (lb M num : Int) else -1
theorem find_in {M : List It} (hu : Up M) {i : Nat} (hi : i < M.length) : findD M M[i].n = i := by
  unfold findD
  rw [if_pos (hit_in hu hi), lb_at hu hi]
theorem find_out {M : List It} {num : Int} (h : ∀ i (hi : i < M.length), M[i].n ≠ num) : findD M num = -1 := by
  unfold findD
  rw [if_neg]
  intro hh
  obtain ⟨hl, e, _⟩ := hit_at hh
  exact h _ hl e
set_option maxRecDepth 100000 in
set_option maxHeartbeats 2000000 in
theorem rfind_calls {M : List It} (hu : Up M) (hl : M.length ≤ 1000) {g cn cm co : Nat} {An Am Ao : Option Addr} {w : World} (h : XTab w g An Am Ao cn cm co M) (num : Int) :
    Calls Try.prog 24 #[.pointer (some ⟨g, 0, none⟩), .int .u64 num] w fun e w' => e = .returned (.int .i64 (findD M num)) ∧ w = w' := by
  have H := Lib.hid h
  have HU := Lib.hid hu
  obtain ⟨x0, x1, x2, _⟩ := h.cells
  clear h hu
  go_enter Try.func24, Try.ntmps24
  go_wp2
  go_loop [5] (fun v5 => ∃ i, v5 = .int .i64 (i : Nat) ∧ i ≤ M.length ∧ Hid (∀ j (h : j < M.length), j < i → M[j].n ≠ num)) (fun v5 => M.length - (intOf v5).toNat)
  case atStart => exact ⟨0, rfl, Nat.zero_le _, Lib.hid (fun j h h1 => absurd h1 (Nat.not_lt_zero _))⟩
  case round =>
    obtain ⟨i, rfl, hi, HN⟩ := hrel
    by_cases hlt : i < M.length
    · obtain ⟨q1, rfl, c1⟩ := H.out.n.at_ (k := i) (by simpa using hlt)
      rw [List.getElem_map] at c1
      have q2 : decide ((i : Int) < (M.length : Int)) = true := decide_eq_true (by omega)
      have q3 : (i : Int) < (M.length : Int) := by omega
      have d1 : IntKind.i64.wrap ((i : Int) + 1) = (i : Int) + 1 := IntWalk.i64_in _ (by omega)
      by_cases he : M[i].n = num
      · have q4 : (M[i].n == num) = true := beq_iff_eq.2 he
        have HF := Lib.hid (show findD M num = i by rw [← he]; exact find_in HU.out hlt)
        clear he HN
        generalize M[i] = y at *
        go_wp2
        go_ret
        exact ⟨by rw [HF.out]; rfl, rfl⟩
      · have q4 : (M[i].n == num) = false := beq_eq_false_iff_ne.2 he
        have HN2 := Lib.hid (show ∀ j (h : j < M.length), j < i + 1 → M[j].n ≠ num from fun j h h1 => by
          by_cases e : j = i
          · subst e; exact he
          · exact HN.out j h (by omega))
        clear he HN
        generalize M[i] = y at *
        go_wp2
        exact ⟨⟨i + 1, by go_num, by omega, HN2⟩, by simp [intOf]; omega⟩
    · obtain rfl : i = M.length := by omega
      have HF := Lib.hid (find_out (fun j h => HN.out j h h))
      clear hlt HN
      go_wp2
      go_ret
      exact ⟨by rw [HF.out]; rfl, rfl⟩
def MinUp (M : List It) : Prop := ∀ a b (ha : a < M.length) (hb : b < M.length), a ≤ b → M[a].m ≤ M[b].m
theorem closes_no {M : List It} {num win : Int} (h : hit M num = false ∨ win < 1) : closesM M num win = false := by
  unfold closesM
  rcases h with h | h
  · rw [h]; rfl
  · rw [decide_eq_false (by omega), Bool.and_false]; rfl
set_option maxRecDepth 100000 in
set_option maxHeartbeats 4000000 in
theorem rcloses_calls {M : List It} (gd : Good M) (mu : MinUp M) {g cn cm co : Nat} {An Am Ao : Option Addr} {w : World} (h : XTab w g An Am Ao cn cm co M) (num win : Int) :
    Calls Try.prog 52 #[.pointer (some ⟨g, 0, none⟩), .int .u64 num, .int .i64 win] w fun e w' => e = .returned (.bool (closesM M num win)) ∧ Below w.heap.size w w' := by
  have FC := rfind_calls gd.up gd.len h num
  have H := Lib.hid h
  have G := Lib.hid gd
  have MU := Lib.hid mu
  have hl := gd.len
  obtain ⟨x0, x1, x2, _⟩ := h.cells
  clear h gd mu
  cases hh : hit M num with
  | false =>
    rw [show findD M num = -1 by unfold findD; rw [hh]; rfl] at FC
    replace FC := Lib.hid FC
    have HC := Lib.hid (closes_no (win := win) (.inl hh))
    clear hh
    go_enter Try.func52, Try.ntmps52
    go_wp2_with (go_at_call 24; (with_reducible refine FC.out.mono ?_); rintro e w' ⟨rfl, rfl⟩)
    go_ret
    exact ⟨by rw [HC.out]; rfl, Below.refl _ _⟩
  | true =>
    rw [show findD M num = (lb M num : Int) by unfold findD; rw [hh]; rfl] at FC
    replace FC := Lib.hid FC
    obtain ⟨hat, hn, hm3⟩ := hit_at hh
    clear hm3
    by_cases hw : win < 1
    · have q1 : decide (win < 1) = true := decide_eq_true hw
      have HC := Lib.hid (closes_no (M := M) (num := num) (.inr hw))
      have q2 : decide ((lb M num : Int) < 0) = false := decide_eq_false (by omega)
      clear hh hat hn
      generalize lb M num = a at *
      go_enter Try.func52, Try.ntmps52
      go_wp2_with (go_at_call 24; (with_reducible refine FC.out.mono ?_); rintro e w' ⟨rfl, rfl⟩)
      go_ret
      exact ⟨by rw [HC.out]; rfl, Below.refl _ _⟩
    · have q1 : decide (win < 1) = false := decide_eq_false hw
      have q2 : decide ((lb M num : Int) < 0) = false := decide_eq_false (by omega)
      obtain ⟨a, ha⟩ : ∃ a, lb M num = a := ⟨_, rfl⟩
      rw [ha] at FC q2
      have HAT : ∃ hat : a < M.length, M[a].n = num := ⟨by omega, by subst ha; exact hn⟩
      obtain ⟨hat, hn⟩ := HAT
      have HN := Lib.hid hn
      clear hh ha
      obtain ⟨qm, rfl, ca⟩ := H.out.m.at_ (k := a) (by simpa using hat)
      rw [List.getElem_map] at ca
      have hra := G.out.min M[a] (List.getElem_mem hat)
      obtain ⟨xm, hxm⟩ : ∃ xm, xm = M[a].m := ⟨_, rfl⟩
      rw [← hxm] at ca hra
      have EX := Lib.hid hxm
      clear hxm hn
      have hz : (win == 0) = false := beq_eq_false_iff_ne.2 (by omega)
      have d0 : IntKind.i64.wrap ((a : Int) + 1) = (a : Int) + 1 := IntWalk.i64_in _ (by omega)
      have d5 : 0 ≤ xm / win ∧ xm / win ≤ xm := ⟨Int.ediv_nonneg hra.1 (by omega), Int.ediv_le_self _ hra.1⟩
      have d7 : IntKind.i64.wrap (xm / win) = xm / win := IntWalk.i64_in _ (by omega)
      have d9 : wrap64 (xm / win) = xm / win := (i64_w _).symm.trans d7
      have ha5 : (a : Int) < (M.length : Int) := by omega
      go_enter Try.func52, Try.ntmps52
      go_wp2_with (go_at_call 24; (with_reducible refine FC.out.mono ?_); rintro e w' ⟨rfl, rfl⟩)
      clear x0 x1 x2 ca
      go_loopw [8] (fun v8 wr => ∃ i, v8 = .int .i64 (i : Nat) ∧ i ≤ M.length ∧ a < i ∧ Hid (∀ j (h : j < M.length), a < j → j < i → M[j].m / win ≠ M[a].m / win) ∧ Hid (XTab wr g An (some ⟨qm, 0, none⟩) Ao cn cm co M) ∧ Hid (Below w.heap.size w wr)) (fun v8 _ => M.length - (intOf v8).toNat)
      case atStart => exact ⟨a + 1, by go_num, by omega, by omega, Lib.hid (fun j h h1 h2 => by omega), H, Lib.hid (Below.refl _ _)⟩
      case round =>
        obtain ⟨i, rfl, hi, hai, HI, HX, HB⟩ := hrel
        obtain ⟨x0, x1, x2, _⟩ := HX.out.cells
        by_cases hlt : i < M.length
        · obtain ⟨qm2, em, ci⟩ := HX.out.m.at_ (k := i) (by simpa using hlt)
          obtain ⟨qm3, em3, ca⟩ := HX.out.m.at_ (k := a) (by simpa using hat)
          injection em with em
          injection em with em
          injection em3 with em3
          injection em3 with em3
          subst em em3
          rw [List.getElem_map] at ci ca
          rw [← EX.out] at ca
          have hrk := G.out.min M[i] (List.getElem_mem hlt)
          obtain ⟨ym, hym⟩ : ∃ ym, ym = M[i].m := ⟨_, rfl⟩
          rw [← hym] at ci hrk
          have EY := Lib.hid hym
          clear hym
          have d1 : IntKind.i64.wrap ((i : Int) + 1) = (i : Int) + 1 := IntWalk.i64_in _ (by omega)
          have d6 : 0 ≤ ym / win ∧ ym / win ≤ ym := ⟨Int.ediv_nonneg hrk.1 (by omega), Int.ediv_le_self _ hrk.1⟩
          have d8 : IntKind.i64.wrap (ym / win) = ym / win := IntWalk.i64_in _ (by omega)
          have d10 : wrap64 (ym / win) = ym / win := (i64_w _).symm.trans d8
          have hi5 : (i : Int) < (M.length : Int) := by omega
          by_cases hq : ym / win = xm / win
          · have q9 : ((ym / win : Int) == xm / win) = true := beq_iff_eq.2 hq
            have HC := Lib.hid (show closesM M num win = false by rw [← HN.out]; exact closes_not G.out MU.out hat hlt hai win (by omega) (by rw [← EY.out, ← EX.out]; exact hq))
            go_upto_region 7 with fail
            go_quiet (fail)
            go_wp2
            go_ret
            exact ⟨by rw [HC.out]; rfl, pw_below_drewN HB.out _⟩
          · have q9 : ((ym / win : Int) == xm / win) = false := beq_eq_false_iff_ne.2 hq
            have HI2 := Lib.hid (show ∀ j (h : j < M.length), a < j → j < i + 1 → M[j].m / win ≠ M[a].m / win from fun j h h1 h2 => by
              by_cases e : j = i
              · subst e
                rw [← EY.out, ← EX.out]
                exact hq
              · exact HI.out j h h1 (by omega))
            clear HI
            go_upto_region 7 with fail
            go_quiet (fail)
            go_wp2
            go_roundw
            case rel => exact ⟨i + 1, by go_num, by omega, by omega, HI2, Lib.hid (HX.out.below (pw_below_drewN (Below.refl _ _) _)), Lib.hid (pw_below_drewN HB.out _)⟩
            case measure => simp [intOf]; omega
        · obtain rfl : i = M.length := by omega
          have HC := Lib.hid (show closesM M num win = true by rw [← HN.out]; exact closes_last G.out hat hat win (by omega) rfl (fun k h h1 => HI.out k h h1 h))
          clear hlt HI
          go_wp2
          go_ret
          exact ⟨by rw [HC.out]; rfl, HB.out⟩
theorem quiet_no {M : List It} {num gap : Int} (h : hit M num = false ∨ gap < 0) : quietM M num gap = false := by
  unfold quietM
  rcases h with h | h
  · rw [h]; rfl
  · rw [decide_eq_false (show ¬ 0 ≤ gap by omega), Bool.and_false]; rfl
theorem quiet_last {M : List It} (g : Good M) {i : Nat} (hi : i < M.length) (h : M.length ≤ i + 1) {gap : Int} (hg : ¬ gap < 0) : quietM M M[i].n gap = true := by
  unfold quietM isLast
  rw [hit_in g.up hi, decide_eq_true (show 0 ≤ gap by omega), next_at g hi, decide_eq_true h]
  rfl
theorem quiet_next {M : List It} (g : Good M) {i : Nat} (hi : i < M.length) (h : i + 1 < M.length) {gap : Int} (hg : ¬ gap < 0) : quietM M M[i].n gap = decide (gap < M[i + 1].m - M[i].m) := by
  unfold quietM isLast nextM
  rw [hit_in g.up hi, decide_eq_true (show 0 ≤ gap by omega), next_at g hi, min_at g.up hi, decide_eq_false (by omega), List.getElem?_eq_getElem h]
  rfl
set_option maxRecDepth 100000 in
set_option maxHeartbeats 4000000 in
theorem rquiet_calls {M : List It} (gd : Good M) {g cn cm co : Nat} {An Am Ao : Option Addr} {w : World} (h : XTab w g An Am Ao cn cm co M) (num gap : Int) :
    Calls Try.prog 53 #[.pointer (some ⟨g, 0, none⟩), .int .u64 num, .int .i64 gap] w fun e w' => e = .returned (.bool (quietM M num gap)) ∧ Below w.heap.size w w' := by
  have FC := rfind_calls gd.up gd.len h num
  have H := Lib.hid h
  have G := Lib.hid gd
  have hl := gd.len
  obtain ⟨x0, x1, x2, hx3⟩ := h.cells
  clear h gd hx3
  cases hh : hit M num with
  | false =>
    rw [show findD M num = -1 by unfold findD; rw [hh]; rfl] at FC
    replace FC := Lib.hid FC
    have HC := Lib.hid (quiet_no (gap := gap) (.inl hh))
    clear hh
    go_enter Try.func53, Try.ntmps53
    go_wp2_with (go_at_call 24; (with_reducible refine FC.out.mono ?_); rintro e w' ⟨rfl, rfl⟩)
    go_ret
    exact ⟨by rw [HC.out]; rfl, Below.refl _ _⟩
  | true =>
    rw [show findD M num = (lb M num : Int) by unfold findD; rw [hh]; rfl] at FC
    replace FC := Lib.hid FC
    obtain ⟨hat, hn, hm3⟩ := hit_at hh
    clear hm3
    by_cases hw : gap < 0
    · have q1 : decide (gap < 0) = true := decide_eq_true hw
      have HC := Lib.hid (quiet_no (M := M) (num := num) (.inr hw))
      have q2 : decide ((lb M num : Int) < 0) = false := decide_eq_false (by omega)
      clear hh hat hn
      generalize lb M num = a at *
      go_enter Try.func53, Try.ntmps53
      go_wp2_with (go_at_call 24; (with_reducible refine FC.out.mono ?_); rintro e w' ⟨rfl, rfl⟩)
      go_ret
      exact ⟨by rw [HC.out]; rfl, Below.refl _ _⟩
    · have q1 : decide (gap < 0) = false := decide_eq_false hw
      have q2 : decide ((lb M num : Int) < 0) = false := decide_eq_false (by omega)
      obtain ⟨a, ha⟩ : ∃ a, lb M num = a := ⟨_, rfl⟩
      rw [ha] at FC q2
      have HAT : ∃ hat : a < M.length, M[a].n = num := ⟨by omega, by subst ha; exact hn⟩
      obtain ⟨hat, hn⟩ := HAT
      have HN := Lib.hid hn
      clear hh ha
      obtain ⟨qm, rfl, ca⟩ := H.out.m.at_ (k := a) (by simpa using hat)
      rw [List.getElem_map] at ca
      have hra := G.out.min M[a] (List.getElem_mem hat)
      have d0 : IntKind.i64.wrap ((a : Int) + 1) = (a : Int) + 1 := IntWalk.i64_in _ (by omega)
      have d00 : wrap64 ((a : Int) + 1) = (a : Int) + 1 := (i64_w _).symm.trans d0
      have ha5 : (a : Int) < (M.length : Int) := by omega
      by_cases hla : M.length ≤ a + 1
      · have q3 : decide ((M.length : Int) ≤ (a : Int) + 1) = true := decide_eq_true (by omega)
        have q4 : decide (M.length ≤ a + 1) = true := decide_eq_true hla
        have HC := Lib.hid (show quietM M num gap = true by rw [← HN.out]; exact quiet_last G.out hat hla hw)
        clear hn
        generalize M[a] = y at *
        go_enter Try.func53, Try.ntmps53
        go_upto_region 4 with (go_at_call 24; (with_reducible refine FC.out.mono ?_); rintro e w' ⟨rfl, rfl⟩)
        go_quiet (fail)
        go_wp2
        go_ret
        exact ⟨by rw [HC.out]; rfl, pw_below_drewN (Below.refl _ _) _⟩
      · have q3 : decide ((M.length : Int) ≤ (a : Int) + 1) = false := decide_eq_false (by omega)
        have q4 : decide (M.length ≤ a + 1) = false := decide_eq_false hla
        have hlt : a + 1 < M.length := by omega
        have hlt5 : (a : Int) + 1 < (M.length : Int) := by omega
        have HC := Lib.hid (show quietM M num gap = decide (gap < M[a + 1].m - M[a].m) by rw [← HN.out]; exact quiet_next G.out hat hlt hw)
        obtain ⟨qm2, em, ci⟩ := H.out.m.at_ (k := a + 1) (by simpa using hlt)
        injection em with em
        injection em with em
        subst em
        rw [List.getElem_map] at ci
        have hrk := G.out.min M[a + 1] (List.getElem_mem hlt)
        clear hn
        generalize M[a + 1] = z at *
        generalize M[a] = y at *
        have d1 : IntKind.i64.wrap (z.m - y.m) = z.m - y.m := IntWalk.i64_in _ (by omega)
        have d2 : wrap64 (z.m - y.m) = z.m - y.m := (i64_w _).symm.trans d1
        have hnn : ((a : Int) + 1).toNat = a + 1 := by omega
        have hp : (0 : Int) ≤ (a : Int) + 1 := by omega
        go_enter Try.func53, Try.ntmps53
        go_upto_region 4 with (go_at_call 24; (with_reducible refine FC.out.mono ?_); rintro e w' ⟨rfl, rfl⟩)
        go_quiet (fail)
        go_wp2
        go_ret
        exact ⟨by rw [HC.out]; rfl, pw_below_drewN (Below.refl _ _) _⟩
end Go.Proofs.Ytonlbeonblpblaa.All
