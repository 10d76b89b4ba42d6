/-
  The document's Fork, where it refuses. No condition but that the list lies as its rows say.
-/
import Derived.Test.YtaolpniigjmccaaRefD
namespace Go.Proofs.Ytaolpniigjmccaa.All
open Go.RowKit Go.Proofs.YtaolpniigjmccaaW.PrintWords Go.Proofs.YtaolpniigjmccaaW.PrintLast Go.Proofs.YtaolpniigjmccaaW.PrintMore Go.Proofs.Ytaolpniigjmccaa.Wd
set_option linter.unusedVariables false
set_option linter.unusedSimpArgs false
set_option maxRecDepth 100000 in
theorem rfork_range {g : Nat} {w : World} (id p b n : Int) (h : id < 1 ∨ 15 < id) :
    Calls Try.prog 31 #[.pointer (some ⟨g, 0, none⟩), .int .i64 id, .int .i64 p, .int .u64 b, .int .u64 n] w fun e w' => e = .returned (.int .i64 2) ∧ w = w' := by
  by_cases h0 : id < 1
  · clear h
    go_enter Try.func31, Try.ntmps31
    go_wp2
    go_ret
    exact ⟨rfl, rfl⟩
  · have h1 : 15 < id := h.resolve_left h0
    clear h
    go_enter Try.func31, Try.ntmps31
    go_wp2
    go_ret
    exact ⟨rfl, rfl⟩
set_option maxRecDepth 100000 in
theorem rfork_twice {g : Nat} {w : World} (id p b n : Int) (h0 : 1 ≤ id) (h1 : id < 16) (AC : Calls Try.prog 29 #[.pointer (some ⟨g, 0, none⟩), .int .i64 id] w fun e w' => e = .returned (.bool true) ∧ w = w') :
    Calls Try.prog 31 #[.pointer (some ⟨g, 0, none⟩), .int .i64 id, .int .i64 p, .int .u64 b, .int .u64 n] w fun e w' => e = .returned (.int .i64 5) ∧ w = w' := by
  replace AC := Lib.hid AC
  have b0 : decide (id < 1) = false := decide_eq_false (by omega)
  have b1 : decide (15 < id) = false := decide_eq_false (by omega)
  go_enter Try.func31, Try.ntmps31
  go_wp2_with (go_at_call 29; refine AC.out.mono ?_; rintro e w' ⟨rfl, rfl⟩)
  go_ret
  exact ⟨rfl, rfl⟩
set_option maxRecDepth 100000 in
theorem rfork_none {g : Nat} {w : World} (id p b n : Int) (h0 : 1 ≤ id) (h1 : id < 16) (al : Int → Bool) (ha0 : al id = false) (ha1 : al p = false) (AC : ∀ j, Calls Try.prog 29 #[.pointer (some ⟨g, 0, none⟩), .int .i64 j] w fun e w' => e = .returned (.bool (al j)) ∧ w = w') :
    Calls Try.prog 31 #[.pointer (some ⟨g, 0, none⟩), .int .i64 id, .int .i64 p, .int .u64 b, .int .u64 n] w fun e w' => e = .returned (.int .i64 4) ∧ w = w' := by
  replace AC := Lib.hid AC
  have b0 : decide (id < 1) = false := decide_eq_false (by omega)
  have b1 : decide (15 < id) = false := decide_eq_false (by omega)
  go_enter Try.func31, Try.ntmps31
  go_wp2_with (go_at_call 29; refine (AC.out _).mono ?_; rintro e w' ⟨rfl, rfl⟩)
  go_ret
  exact ⟨rfl, rfl⟩
set_option maxRecDepth 100000 in
theorem rfork_past {g : Nat} {w : World} (id p b n pn : Int) (h0 : 1 ≤ id) (h1 : id < 16) (al : Int → Bool) (ha0 : al id = false) (ha1 : al p = true) (AC : ∀ j, Calls Try.prog 29 #[.pointer (some ⟨g, 0, none⟩), .int .i64 j] w fun e w' => e = .returned (.bool (al j)) ∧ w = w')
    (NC : Calls Try.prog 36 #[.pointer (some ⟨g, 0, none⟩), .int .i64 p] w fun e w' => e = .returned (.int .u64 pn) ∧ w = w') (hb : b < pn ∨ n ≤ b) :
    Calls Try.prog 31 #[.pointer (some ⟨g, 0, none⟩), .int .i64 id, .int .i64 p, .int .u64 b, .int .u64 n] w fun e w' => e = .returned (.int .i64 15) ∧ w = w' := by
  replace AC := Lib.hid AC
  replace NC := Lib.hid NC
  have b0 : decide (id < 1) = false := decide_eq_false (by omega)
  have b1 : decide (15 < id) = false := decide_eq_false (by omega)
  by_cases h2 : b < pn
  · clear hb
    go_enter Try.func31, Try.ntmps31
    go_wp2_with (first | (go_at_call 29; refine (AC.out _).mono ?_; rintro e w' ⟨rfl, rfl⟩) | (go_at_call 36; refine NC.out.mono ?_; rintro e w' ⟨rfl, rfl⟩))
    go_ret
    exact ⟨rfl, rfl⟩
  · have h3 : n ≤ b := hb.resolve_left h2
    clear hb
    go_enter Try.func31, Try.ntmps31
    go_wp2_with (first | (go_at_call 29; refine (AC.out _).mono ?_; rintro e w' ⟨rfl, rfl⟩) | (go_at_call 36; refine NC.out.mono ?_; rintro e w' ⟨rfl, rfl⟩))
    go_ret
    exact ⟨rfl, rfl⟩
end Go.Proofs.Ytaolpniigjmccaa.All
