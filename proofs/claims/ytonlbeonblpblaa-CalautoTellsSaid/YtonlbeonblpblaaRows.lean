/-
  No cell of these rows narrows 'for every input' (looked for: loops, veiled, ifaces, maps, wideKeys, modest, calm, conditions, laid).
  DERIVED. THE GIVEN ROWS OF THIS SEAT. 8 by the template 'for every input the law returns true; each argument reads behind the call as it read before'; 0 by the template 'total and deterministic' (their statements: YtonlbeonblpblaaTotals.lean).
  GIVEN WITH THE SEED: the statements are not yours to turn. If you find one false, say at which input.
  Laid BY PROGRAM, IN A SANDBOX (cutbox-rows.mjs): the forced cells as the released guide's own fill.sh prints them over the translation 0fe917dab83730ad… (all of the seat's roots in one cut). By AI agents, Wed Nov 11 2026. No macro, syntax, notation, axiom, sorry.
-/
import Derived.Test.YtonlbeonblpblaaChecked
import GoSem.Claim
import GoSem.ClaimJoined
import GoSem.ClaimMapViews
import Derived.JoinedTies
import Derived.KernelRfl
namespace Go.Proofs.Ytonlbeonblpblaa
/- THE CELL 'sum', in the pinned program and in every row, IS THE sha256 OF THE DUMP (.gsa) THAT YtonlbeonblpblaaProg.lean LOADS. Nothing in Lean hashes anything: it is a label: what it is worth is what the hold of that sum in a sandbox is worth. -/
noncomputable def Try.pinned : Pinned := { name := "ytonlbeonblpblaa", sum := "0fe917dab83730ade1129f9b12e03a4282090de7819df2bd1575dba8d8a1bb06", checked := Try.checked }
namespace Rows
def none {H : Type} : Left H := { results := [], args := [] }

/-- 'erewhilelaw36.CalautoMore': WHATEVER THE INPUT: true; the input reads as it did. -/
def calautoMoreSpec : ChangeSpec := { name := "calautoMore", fn := fun _ => fun
  | [d1, d2, d3, d4] => { results := [.lit (.bool true)], args := [d1, d2, d3, d4] }
  | _ => none }
def calautoMoreRow : OpenClaim := { program := "ytonlbeonblpblaa", sum := "0fe917dab83730ade1129f9b12e03a4282090de7819df2bd1575dba8d8a1bb06", func := "erewhile/erewhilelaw36.CalautoMore", spec := "calautoMore", unfollowed := true, recurses := true, apart := false }
def CalautoMoreSaid : Prop := calautoMoreRow.holds Try.pinned (OpenSpec.ofChange calautoMoreSpec)

/-- ITS FALSE NEIGHBOUR: 'it returns false'. Refute it at one input. -/
def calautoMoreWrong : ChangeSpec := { name := "calautoMore", fn := fun _ => fun
  | [d1, d2, d3, d4] => { results := [.lit (.bool false)], args := [d1, d2, d3, d4] }
  | _ => none }
def CalautoMoreWrongFalsely : Prop := calautoMoreRow.holds Try.pinned (OpenSpec.ofChange calautoMoreWrong)

/-- 'erewhilelaw36.CalautoOrder': WHATEVER THE INPUT: true; the input reads as it did. -/
def calautoOrderSpec : ChangeSpec := { name := "calautoOrder", fn := fun _ => fun
  | [d1, d2, d3, d4] => { results := [.lit (.bool true)], args := [d1, d2, d3, d4] }
  | _ => none }
def calautoOrderRow : OpenClaim := { program := "ytonlbeonblpblaa", sum := "0fe917dab83730ade1129f9b12e03a4282090de7819df2bd1575dba8d8a1bb06", func := "erewhile/erewhilelaw36.CalautoOrder", spec := "calautoOrder", unfollowed := true, recurses := true, apart := false }
def CalautoOrderSaid : Prop := calautoOrderRow.holds Try.pinned (OpenSpec.ofChange calautoOrderSpec)

/-- ITS FALSE NEIGHBOUR: 'it returns false'. Refute it at one input. -/
def calautoOrderWrong : ChangeSpec := { name := "calautoOrder", fn := fun _ => fun
  | [d1, d2, d3, d4] => { results := [.lit (.bool false)], args := [d1, d2, d3, d4] }
  | _ => none }
def CalautoOrderWrongFalsely : Prop := calautoOrderRow.holds Try.pinned (OpenSpec.ofChange calautoOrderWrong)

/-- 'erewhilelaw36.CalautoCompiles': WHATEVER THE INPUT: true; the input reads as it did. -/
def calautoCompilesSpec : ChangeSpec := { name := "calautoCompiles", fn := fun _ => fun
  | [d] => { results := [.lit (.bool true)], args := [d] }
  | _ => none }
def calautoCompilesRow : OpenClaim := { program := "ytonlbeonblpblaa", sum := "0fe917dab83730ade1129f9b12e03a4282090de7819df2bd1575dba8d8a1bb06", func := "erewhile/erewhilelaw36.CalautoCompiles", spec := "calautoCompiles", unfollowed := true, recurses := true, apart := false }
def CalautoCompilesSaid : Prop := calautoCompilesRow.holds Try.pinned (OpenSpec.ofChange calautoCompilesSpec)

/-- ITS FALSE NEIGHBOUR: 'it returns false'. Refute it at one input. -/
def calautoCompilesWrong : ChangeSpec := { name := "calautoCompiles", fn := fun _ => fun
  | [d] => { results := [.lit (.bool false)], args := [d] }
  | _ => none }
def CalautoCompilesWrongFalsely : Prop := calautoCompilesRow.holds Try.pinned (OpenSpec.ofChange calautoCompilesWrong)

/-- 'erewhilelaw36.CalautoTells': WHATEVER THE INPUT: true; the input reads as it did. -/
def calautoTellsSpec : ChangeSpec := { name := "calautoTells", fn := fun _ => fun
  | [d1, d2, d3, d4, d5, d6] => { results := [.lit (.bool true)], args := [d1, d2, d3, d4, d5, d6] }
  | _ => none }
def calautoTellsRow : OpenClaim := { program := "ytonlbeonblpblaa", sum := "0fe917dab83730ade1129f9b12e03a4282090de7819df2bd1575dba8d8a1bb06", func := "erewhile/erewhilelaw36.CalautoTells", spec := "calautoTells", unfollowed := true, recurses := true, apart := false }
def CalautoTellsSaid : Prop := calautoTellsRow.holds Try.pinned (OpenSpec.ofChange calautoTellsSpec)

/-- ITS FALSE NEIGHBOUR: 'it returns false'. Refute it at one input. -/
def calautoTellsWrong : ChangeSpec := { name := "calautoTells", fn := fun _ => fun
  | [d1, d2, d3, d4, d5, d6] => { results := [.lit (.bool false)], args := [d1, d2, d3, d4, d5, d6] }
  | _ => none }
def CalautoTellsWrongFalsely : Prop := calautoTellsRow.holds Try.pinned (OpenSpec.ofChange calautoTellsWrong)

/-- 'erewhilelaw36.CalautoEnds': WHATEVER THE INPUT: true; the input reads as it did. -/
def calautoEndsSpec : ChangeSpec := { name := "calautoEnds", fn := fun _ => fun
  | [d1, d2, d3] => { results := [.lit (.bool true)], args := [d1, d2, d3] }
  | _ => none }
def calautoEndsRow : OpenClaim := { program := "ytonlbeonblpblaa", sum := "0fe917dab83730ade1129f9b12e03a4282090de7819df2bd1575dba8d8a1bb06", func := "erewhile/erewhilelaw36.CalautoEnds", spec := "calautoEnds", unfollowed := true, recurses := true, apart := false }
def CalautoEndsSaid : Prop := calautoEndsRow.holds Try.pinned (OpenSpec.ofChange calautoEndsSpec)

/-- ITS FALSE NEIGHBOUR: 'it returns false'. Refute it at one input. -/
def calautoEndsWrong : ChangeSpec := { name := "calautoEnds", fn := fun _ => fun
  | [d1, d2, d3] => { results := [.lit (.bool false)], args := [d1, d2, d3] }
  | _ => none }
def CalautoEndsWrongFalsely : Prop := calautoEndsRow.holds Try.pinned (OpenSpec.ofChange calautoEndsWrong)

/-- 'erewhilelaw36.CalautoKeeps': WHATEVER THE INPUT: true; the input reads as it did. -/
def calautoKeepsSpec : ChangeSpec := { name := "calautoKeeps", fn := fun _ => fun
  | [d1, d2, d3, d4] => { results := [.lit (.bool true)], args := [d1, d2, d3, d4] }
  | _ => none }
def calautoKeepsRow : OpenClaim := { program := "ytonlbeonblpblaa", sum := "0fe917dab83730ade1129f9b12e03a4282090de7819df2bd1575dba8d8a1bb06", func := "erewhile/erewhilelaw36.CalautoKeeps", spec := "calautoKeeps", unfollowed := true, recurses := true, apart := false }
def CalautoKeepsSaid : Prop := calautoKeepsRow.holds Try.pinned (OpenSpec.ofChange calautoKeepsSpec)

/-- ITS FALSE NEIGHBOUR: 'it returns false'. Refute it at one input. -/
def calautoKeepsWrong : ChangeSpec := { name := "calautoKeeps", fn := fun _ => fun
  | [d1, d2, d3, d4] => { results := [.lit (.bool false)], args := [d1, d2, d3, d4] }
  | _ => none }
def CalautoKeepsWrongFalsely : Prop := calautoKeepsRow.holds Try.pinned (OpenSpec.ofChange calautoKeepsWrong)

/-- 'erewhilelaw36.CalautoMonotone': WHATEVER THE INPUT: true; the input reads as it did. -/
def calautoMonotoneSpec : ChangeSpec := { name := "calautoMonotone", fn := fun _ => fun
  | [d1, d2, d3, d4, d5, d6] => { results := [.lit (.bool true)], args := [d1, d2, d3, d4, d5, d6] }
  | _ => none }
def calautoMonotoneRow : OpenClaim := { program := "ytonlbeonblpblaa", sum := "0fe917dab83730ade1129f9b12e03a4282090de7819df2bd1575dba8d8a1bb06", func := "erewhile/erewhilelaw36.CalautoMonotone", spec := "calautoMonotone", unfollowed := true, recurses := true, apart := false }
def CalautoMonotoneSaid : Prop := calautoMonotoneRow.holds Try.pinned (OpenSpec.ofChange calautoMonotoneSpec)

/-- ITS FALSE NEIGHBOUR: 'it returns false'. Refute it at one input. -/
def calautoMonotoneWrong : ChangeSpec := { name := "calautoMonotone", fn := fun _ => fun
  | [d1, d2, d3, d4, d5, d6] => { results := [.lit (.bool false)], args := [d1, d2, d3, d4, d5, d6] }
  | _ => none }
def CalautoMonotoneWrongFalsely : Prop := calautoMonotoneRow.holds Try.pinned (OpenSpec.ofChange calautoMonotoneWrong)

/-- 'erewhilelaw36.CalautoNeedless': WHATEVER THE INPUT: true; the input reads as it did. -/
def calautoNeedlessSpec : ChangeSpec := { name := "calautoNeedless", fn := fun _ => fun
  | [d1, d2, d3, d4] => { results := [.lit (.bool true)], args := [d1, d2, d3, d4] }
  | _ => none }
def calautoNeedlessRow : OpenClaim := { program := "ytonlbeonblpblaa", sum := "0fe917dab83730ade1129f9b12e03a4282090de7819df2bd1575dba8d8a1bb06", func := "erewhile/erewhilelaw36.CalautoNeedless", spec := "calautoNeedless", unfollowed := true, recurses := true, apart := false }
def CalautoNeedlessSaid : Prop := calautoNeedlessRow.holds Try.pinned (OpenSpec.ofChange calautoNeedlessSpec)

/-- ITS FALSE NEIGHBOUR: 'it returns false'. Refute it at one input. -/
def calautoNeedlessWrong : ChangeSpec := { name := "calautoNeedless", fn := fun _ => fun
  | [d1, d2, d3, d4] => { results := [.lit (.bool false)], args := [d1, d2, d3, d4] }
  | _ => none }
def CalautoNeedlessWrongFalsely : Prop := calautoNeedlessRow.holds Try.pinned (OpenSpec.ofChange calautoNeedlessWrong)

/- THE SECOND FORM. 'bulk': how many values and letters a reading holds, each counted each time it is reached (what is shared counts as often as it is met; a slice's spare places count too). A statement '..UptoSaid' is the law's where the arguments, and the package variables that the reading takes, are together of bulk at most 1048576: NARROWER than '..Said'. Prove '..Said' where nothing that the law and all that it calls make is longer than what came in: it says more and counts as full. Else prove '..UptoSaid'. A law counts once. -/
mutual
def uptoBulk {H : Type} : DataW H → Nat
  | .lit (.string bytes) => bytes.length + 1
  | .lit _ => 1
  | .nil => 1
  | .ptr d => uptoBulk d + 1
  | .slice elems spare => uptoBulkAll elems + uptoBulkAll spare + 1
  | .agg parts => uptoBulkAll parts + 1
  | .iface _ d => uptoBulk d + 1
  | .map entries => uptoBulkEntries entries + 1
  | .held _ => 1
def uptoBulkAll {H : Type} : List (DataW H) → Nat
  | [] => 0
  | d :: r => uptoBulk d + uptoBulkAll r
def uptoBulkEntries {H : Type} : List (Lit × DataW H) → Nat
  | [] => 0
  | x :: r => uptoBulkEntry x + uptoBulkEntries r
def uptoBulkEntry {H : Type} : Lit × DataW H → Nat
  | (.string bytes, d) => bytes.length + uptoBulk d + 1
  | (_, d) => uptoBulk d + 1
 end
def uptoSmall : (H : Type) → List (DataW H) → Bool := fun _ ds => decide (uptoBulkAll ds ≤ 1048576)
def OpenSpec.upto (s : _root_.Go.ChangeSpec) : _root_.Go.OpenSpec := { _root_.Go.OpenSpec.ofChange s with cond := some uptoSmall }

/-- 'erewhilelaw36.CalautoMore', WHERE WHAT IT READS IS OF BULK AT MOST 1048576: true; the input reads as it did. -/
def calautoMoreUptoRow : OpenClaim := { program := "ytonlbeonblpblaa", sum := "0fe917dab83730ade1129f9b12e03a4282090de7819df2bd1575dba8d8a1bb06", func := "erewhile/erewhilelaw36.CalautoMore", spec := "calautoMore", unfollowed := true, recurses := true, apart := false, narrowed := true }
def CalautoMoreUptoSaid : Prop := calautoMoreUptoRow.holds Try.pinned (OpenSpec.upto calautoMoreSpec)

/-- 'erewhilelaw36.CalautoOrder', WHERE WHAT IT READS IS OF BULK AT MOST 1048576: true; the input reads as it did. -/
def calautoOrderUptoRow : OpenClaim := { program := "ytonlbeonblpblaa", sum := "0fe917dab83730ade1129f9b12e03a4282090de7819df2bd1575dba8d8a1bb06", func := "erewhile/erewhilelaw36.CalautoOrder", spec := "calautoOrder", unfollowed := true, recurses := true, apart := false, narrowed := true }
def CalautoOrderUptoSaid : Prop := calautoOrderUptoRow.holds Try.pinned (OpenSpec.upto calautoOrderSpec)

/-- 'erewhilelaw36.CalautoCompiles', WHERE WHAT IT READS IS OF BULK AT MOST 1048576: true; the input reads as it did. -/
def calautoCompilesUptoRow : OpenClaim := { program := "ytonlbeonblpblaa", sum := "0fe917dab83730ade1129f9b12e03a4282090de7819df2bd1575dba8d8a1bb06", func := "erewhile/erewhilelaw36.CalautoCompiles", spec := "calautoCompiles", unfollowed := true, recurses := true, apart := false, narrowed := true }
def CalautoCompilesUptoSaid : Prop := calautoCompilesUptoRow.holds Try.pinned (OpenSpec.upto calautoCompilesSpec)

/-- 'erewhilelaw36.CalautoTells', WHERE WHAT IT READS IS OF BULK AT MOST 1048576: true; the input reads as it did. -/
def calautoTellsUptoRow : OpenClaim := { program := "ytonlbeonblpblaa", sum := "0fe917dab83730ade1129f9b12e03a4282090de7819df2bd1575dba8d8a1bb06", func := "erewhile/erewhilelaw36.CalautoTells", spec := "calautoTells", unfollowed := true, recurses := true, apart := false, narrowed := true }
def CalautoTellsUptoSaid : Prop := calautoTellsUptoRow.holds Try.pinned (OpenSpec.upto calautoTellsSpec)

/-- 'erewhilelaw36.CalautoEnds', WHERE WHAT IT READS IS OF BULK AT MOST 1048576: true; the input reads as it did. -/
def calautoEndsUptoRow : OpenClaim := { program := "ytonlbeonblpblaa", sum := "0fe917dab83730ade1129f9b12e03a4282090de7819df2bd1575dba8d8a1bb06", func := "erewhile/erewhilelaw36.CalautoEnds", spec := "calautoEnds", unfollowed := true, recurses := true, apart := false, narrowed := true }
def CalautoEndsUptoSaid : Prop := calautoEndsUptoRow.holds Try.pinned (OpenSpec.upto calautoEndsSpec)

/-- 'erewhilelaw36.CalautoKeeps', WHERE WHAT IT READS IS OF BULK AT MOST 1048576: true; the input reads as it did. -/
def calautoKeepsUptoRow : OpenClaim := { program := "ytonlbeonblpblaa", sum := "0fe917dab83730ade1129f9b12e03a4282090de7819df2bd1575dba8d8a1bb06", func := "erewhile/erewhilelaw36.CalautoKeeps", spec := "calautoKeeps", unfollowed := true, recurses := true, apart := false, narrowed := true }
def CalautoKeepsUptoSaid : Prop := calautoKeepsUptoRow.holds Try.pinned (OpenSpec.upto calautoKeepsSpec)

/-- 'erewhilelaw36.CalautoMonotone', WHERE WHAT IT READS IS OF BULK AT MOST 1048576: true; the input reads as it did. -/
def calautoMonotoneUptoRow : OpenClaim := { program := "ytonlbeonblpblaa", sum := "0fe917dab83730ade1129f9b12e03a4282090de7819df2bd1575dba8d8a1bb06", func := "erewhile/erewhilelaw36.CalautoMonotone", spec := "calautoMonotone", unfollowed := true, recurses := true, apart := false, narrowed := true }
def CalautoMonotoneUptoSaid : Prop := calautoMonotoneUptoRow.holds Try.pinned (OpenSpec.upto calautoMonotoneSpec)

/-- 'erewhilelaw36.CalautoNeedless', WHERE WHAT IT READS IS OF BULK AT MOST 1048576: true; the input reads as it did. -/
def calautoNeedlessUptoRow : OpenClaim := { program := "ytonlbeonblpblaa", sum := "0fe917dab83730ade1129f9b12e03a4282090de7819df2bd1575dba8d8a1bb06", func := "erewhile/erewhilelaw36.CalautoNeedless", spec := "calautoNeedless", unfollowed := true, recurses := true, apart := false, narrowed := true }
def CalautoNeedlessUptoSaid : Prop := calautoNeedlessUptoRow.holds Try.pinned (OpenSpec.upto calautoNeedlessSpec)

end Rows
end Go.Proofs.Ytonlbeonblpblaa
