/-
  alike, all ways joined; and of the empty forests. No condition but that both lie as their rows say, of one forest.
-/
import Derived.Test.YtaolpniigjmccaaAlikeN
import Derived.Test.YtaolpniigjmccaaAlikeZ
import Derived.Test.YtaolpniigjmccaaAlikeY
import Derived.Test.YtaolpniigjmccaaAlikeS
import Derived.Test.YtaolpniigjmccaaAlikeT
namespace Go.Proofs.Ytaolpniigjmccaa.All
open Go.RowKit Go.Proofs.YtaolpniigjmccaaW.PrintWords Go.Proofs.YtaolpniigjmccaaW.PrintLast Go.Proofs.YtaolpniigjmccaaW.PrintMore Go.Proofs.Ytaolpniigjmccaa.Wd
set_option linter.unusedVariables false
theorem alike_is {F : List Tw} (ok : Ok F) {b g c : Nat} {A : Option Addr} {w : World} (ha : At w b 69 F) (hx : XAt w g A c (refL F)) (id m : Int) :
    Calls Try.prog 22 #[.pointer (some ⟨b, 0, none⟩), .pointer (some ⟨g, 0, none⟩), .int .i64 id, .int .u64 m] w fun e w' => e = .returned (.bool true) ∧ Below w.heap.size w w' := by
  cases hal : aliveF F id with
  | false => exact alike_none ok ha hx id m hal (by unfold isSon; rw [hal]; rfl) (by unfold lineOk; rw [hal]; rfl)
  | true =>
    cases hso : isSon F id with
    | false =>
      cases hok : lineOk F id m with
      | false => exact alike_zero0 ok ha hx id m hal hso hok
      | true => exact alike_zero1 ok ha hx id m hal hso hok
    | true =>
      cases hok : lineOk F id m with
      | false => exact alike_son0 ok ha hx id m hal hso hok
      | true => exact alike_son1 ok ha hx id m hal hso hok
theorem xat_new {w : World} {g : Nat} (h : w.heap[g]? = some (.cells #[.slice none 0 0] 47)) : XAt w g none 0 (refL newF) := by
  rw [ref_new]
  exact ⟨h, Nat.le_refl _, fun hn => absurd rfl hn⟩
theorem fc_new : (fc newF).toArray = (Array.replicate 16 #[Value.bool false, .int .i64 0, .int .u64 0, .int .u64 0]).flatten := by kernel_rfl
end Go.Proofs.Ytaolpniigjmccaa.All
