/-
  Nums: two slices that hold the same numbers. No condition but that both read so.
-/
import Derived.Test.YtaolpniigjmccaaRefD
namespace Go.Proofs.Ytaolpniigjmccaa.All
open Go.RowKit Go.Proofs.YtaolpniigjmccaaW.PrintWords Go.Proofs.YtaolpniigjmccaaW.PrintLast Go.Proofs.YtaolpniigjmccaaW.PrintMore Go.Proofs.Ytaolpniigjmccaa.Wd
set_option linter.unusedVariables false
set_option linter.unusedSimpArgs false
theorem reads_u64 {w : World} {B : Nat} {A : Option Addr} {xs : List Int} (h : Reads w B 1 A xs.length (xs.map (Value.int .u64))) {k : Nat} (hk : k < xs.length) : ∃ ad, A = some ad ∧ w.cell? (ad.add k) = some (.int .u64 xs[k]) := by
  obtain ⟨ad, u, h1, _, h2, h3⟩ := h.at_ hk
  refine ⟨ad, h1, h3.trans ?_⟩
  rw [← h2, List.getElem?_map, List.getElem?_eq_getElem hk]
  rfl
set_option maxRecDepth 100000 in
set_option maxHeartbeats 1000000 in
theorem nums_calls {w : World} {B1 B2 c1 c2 : Nat} {A1 A2 : Option Addr} (xs : List Int) (h1 : Reads w B1 1 A1 xs.length (xs.map (Value.int .u64))) (h2 : Reads w B2 1 A2 xs.length (xs.map (Value.int .u64))) (hl : xs.length ≤ 1000) :
    Calls Try.prog 20 #[.slice A1 xs.length c1, .slice A2 xs.length c2] w fun e w' => e = .returned (.bool true) ∧ Below w.heap.size w w' := by
  replace h1 := Lib.hid h1
  replace h2 := Lib.hid h2
  go_enter Try.func20, Try.ntmps20
  go_wp2
  go_loopw [5] (fun v5 wr => ∃ k : Nat, v5 = .int .i64 k ∧ k ≤ xs.length ∧ Drawn0 w wr) (fun v5 _ => xs.length - (intOf v5).toNat)
  case atStart => exact ⟨0, rfl, Nat.zero_le _, Drawn0.refl _⟩
  case round =>
    obtain ⟨k, rfl, hk, hd⟩ := hrel
    obtain ⟨m, hw⟩ := hd.out
    replace hd := Lib.hid hd
    have HB := Lib.hid (show Below w.heap.size w wr by rw [hw]; exact pw_below_drewN (Below.refl _ _) m)
    by_cases hlt : k < xs.length
    · obtain ⟨a1, rfl, e1⟩ := reads_u64 h1.out hlt
      obtain ⟨a2, rfl, e2⟩ := reads_u64 h2.out hlt
      replace e1 : wr.cell? (a1.add k) = some (.int .u64 xs[k]) := by rw [hw]; exact e1
      replace e2 : wr.cell? (a2.add k) = some (.int .u64 xs[k]) := by rw [hw]; exact e2
      replace hw := Lib.hid hw
      generalize xs[k] = y at *
      go_wp2
      go_quiet (fail)
      go_wp2
      go_roundw
      case rel => exact ⟨k + 1, by go_num, by omega, hd.out.step _⟩
      case measure => simp [intOf]; omega
    · obtain rfl : k = xs.length := by omega
      replace hw := Lib.hid hw
      go_wp2
      go_ret
      exact ⟨rfl, HB.out⟩
end Go.Proofs.Ytaolpniigjmccaa.All
