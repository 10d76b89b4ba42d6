/-
  No table, and no calendar: nothing stays. No condition.
-/
import Derived.Test.YtonlbeonblpblaaMono
namespace Go.Proofs.Ytonlbeonblpblaa.All
open Go.RowKit Go.Proofs.YtonlbeonblpblaaW.PrintWords Go.Proofs.YtonlbeonblpblaaW.PrintLast Go.Proofs.YtonlbeonblpblaaW.PrintMore Go.Proofs.Ytonlbeonblpblaa.Wd
set_option linter.unusedVariables false
set_option linter.unusedSimpArgs false
private theorem ym (motive : Option Value → Sort _) (h1 : (b : Bool) → motive (some (.bool b))) (h2 : (x : Option Value) → motive x) : Go.yielded.match_1 motive (some undef) h1 h2 = h2 (some undef) := rfl
attribute [local go_sem, local simp] ym
set_option maxRecDepth 100000 in
theorem mins_nil (Ak : Option Addr) (nk ck : Nat) (N : Int × Bool) (num : Int) (w : World) :
    Calls Try.prog 18 #[.agg #[.slice Ak nk ck, .int .i64 N.1, .bool N.2], .pointer none, .int .u64 num] w fun e w' => e = .returned (.slice none 0 0) ∧ Below w.heap.size w w' := by
  have hb0 := Lib.hid (below_alloc (Below.refl w.heap.size w) (.cells #[.slice Ak nk ck, .int .i64 N.1, .bool N.2] 32))
  go_enter Try.func18, Try.ntmps18
  go_wp2_with (go_at_call 17; refine (min_nil num _).mono ?_; rintro e w3 ⟨rfl, rfl⟩)
  go_ret
  exact ⟨rfl, hb0.out⟩
set_option maxRecDepth 100000 in
theorem till_nil (Ak : Option Addr) (nk ck : Nat) (N : Int × Bool) (num : Int) (w : World) :
    Calls Try.prog 16 #[.agg #[.slice Ak nk ck, .int .i64 N.1, .bool N.2], .pointer none, .int .u64 num] w fun e w' => e = .returned (.int .i64 0) ∧ Below w.heap.size w w' := by
  have hb0 := Lib.hid (below_alloc (Below.refl w.heap.size w) (.cells #[.slice Ak nk ck, .int .i64 N.1, .bool N.2] 32))
  go_enter Try.func16, Try.ntmps16
  go_wp2_with (go_at_call 18; refine (mins_nil Ak nk ck N num _).mono ?_; rintro e w3 ⟨rfl, hb3⟩; replace hb3 := Lib.hid (hb0.out.trans (hb3.mono hb0.out.size)))
  go_ret
  exact ⟨rfl, hb3.out⟩
set_option maxRecDepth 100000 in
theorem stays_nil (Ak : Option Addr) (nk ck : Nat) (N : Int × Bool) (num now : Int) (w : World) :
    Calls Try.prog 23 #[.agg #[.slice Ak nk ck, .int .i64 N.1, .bool N.2], .pointer none, .int .u64 num, .int .i64 now] w fun e w' => e = .returned (.bool false) ∧ Below w.heap.size w w' := by
  have hb0 := Lib.hid (below_alloc (Below.refl w.heap.size w) (.cells #[.slice Ak nk ck, .int .i64 N.1, .bool N.2] 32))
  go_enter Try.func23, Try.ntmps23
  go_wp2_with (go_at_call 17; refine (min_nil num _).mono ?_; rintro e w3 ⟨rfl, rfl⟩)
  go_ret
  exact ⟨rfl, hb0.out⟩
end Go.Proofs.Ytonlbeonblpblaa.All
