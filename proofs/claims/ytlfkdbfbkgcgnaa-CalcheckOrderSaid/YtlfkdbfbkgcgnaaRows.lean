/-
  No cell of these rows narrows 'for every input' (looked for: loops, veiled, ifaces, maps, wideKeys, modest, calm, conditions, laid).
  DERIVED. THE GIVEN ROWS OF THIS SEAT. 7 by the template 'for every input the law returns true; each argument reads behind the call as it read before'; 0 by the template 'total and deterministic' (their statements: YtlfkdbfbkgcgnaaTotals.lean).
  GIVEN WITH THE SEED: the statements are not yours to turn. If you find one false, say at which input.
  Laid BY PROGRAM, IN A SANDBOX (cutbox-rows.mjs): the forced cells as the released guide's own fill.sh prints them over the translation 6fc46c6bcb2199de… (all of the seat's roots in one cut). By AI agents, Wed Nov 11 2026. No macro, syntax, notation, axiom, sorry.
-/
import Derived.Test.YtlfkdbfbkgcgnaaChecked
import GoSem.Claim
import GoSem.ClaimJoined
import GoSem.ClaimMapViews
import Derived.JoinedTies
import Derived.KernelRfl
namespace Go.Proofs.Ytlfkdbfbkgcgnaa
/- THE CELL 'sum', in the pinned program and in every row, IS THE sha256 OF THE DUMP (.gsa) THAT YtlfkdbfbkgcgnaaProg.lean LOADS. Nothing in Lean hashes anything: it is a label: what it is worth is what the hold of that sum in a sandbox is worth. -/
noncomputable def Try.pinned : Pinned := { name := "ytlfkdbfbkgcgnaa", sum := "6fc46c6bcb2199de65cc84053f08ddbb509c29eef8e4f7706ab23878deab225e", checked := Try.checked }
namespace Rows
def none {H : Type} : Left H := { results := [], args := [] }

/-- 'erewhilelaw35.CalcheckIs': WHATEVER THE INPUT: true; the input reads as it did. -/
def calcheckIsSpec : ChangeSpec := { name := "calcheckIs", fn := fun _ => fun
  | [d] => { results := [.lit (.bool true)], args := [d] }
  | _ => none }
def calcheckIsRow : OpenClaim := { program := "ytlfkdbfbkgcgnaa", sum := "6fc46c6bcb2199de65cc84053f08ddbb509c29eef8e4f7706ab23878deab225e", func := "erewhile/erewhilelaw35.CalcheckIs", spec := "calcheckIs", apart := false }
def CalcheckIsSaid : Prop := calcheckIsRow.holds Try.pinned (OpenSpec.ofChange calcheckIsSpec)

/-- ITS FALSE NEIGHBOUR: 'it returns false'. Refute it at one input. -/
def calcheckIsWrong : ChangeSpec := { name := "calcheckIs", fn := fun _ => fun
  | [d] => { results := [.lit (.bool false)], args := [d] }
  | _ => none }
def CalcheckIsWrongFalsely : Prop := calcheckIsRow.holds Try.pinned (OpenSpec.ofChange calcheckIsWrong)

/-- 'erewhilelaw35.CalcheckLeft': WHATEVER THE INPUT: true; the input reads as it did. -/
def calcheckLeftSpec : ChangeSpec := { name := "calcheckLeft", fn := fun _ => fun
  | [d] => { results := [.lit (.bool true)], args := [d] }
  | _ => none }
def calcheckLeftRow : OpenClaim := { program := "ytlfkdbfbkgcgnaa", sum := "6fc46c6bcb2199de65cc84053f08ddbb509c29eef8e4f7706ab23878deab225e", func := "erewhile/erewhilelaw35.CalcheckLeft", spec := "calcheckLeft", apart := false }
def CalcheckLeftSaid : Prop := calcheckLeftRow.holds Try.pinned (OpenSpec.ofChange calcheckLeftSpec)

/-- ITS FALSE NEIGHBOUR: 'it returns false'. Refute it at one input. -/
def calcheckLeftWrong : ChangeSpec := { name := "calcheckLeft", fn := fun _ => fun
  | [d] => { results := [.lit (.bool false)], args := [d] }
  | _ => none }
def CalcheckLeftWrongFalsely : Prop := calcheckLeftRow.holds Try.pinned (OpenSpec.ofChange calcheckLeftWrong)

/-- 'erewhilelaw35.CalcheckParts': WHATEVER THE INPUT: true; the input reads as it did. -/
def calcheckPartsSpec : ChangeSpec := { name := "calcheckParts", fn := fun _ => fun
  | [d1, d2] => { results := [.lit (.bool true)], args := [d1, d2] }
  | _ => none }
def calcheckPartsRow : OpenClaim := { program := "ytlfkdbfbkgcgnaa", sum := "6fc46c6bcb2199de65cc84053f08ddbb509c29eef8e4f7706ab23878deab225e", func := "erewhile/erewhilelaw35.CalcheckParts", spec := "calcheckParts", apart := false }
def CalcheckPartsSaid : Prop := calcheckPartsRow.holds Try.pinned (OpenSpec.ofChange calcheckPartsSpec)

/-- ITS FALSE NEIGHBOUR: 'it returns false'. Refute it at one input. -/
def calcheckPartsWrong : ChangeSpec := { name := "calcheckParts", fn := fun _ => fun
  | [d1, d2] => { results := [.lit (.bool false)], args := [d1, d2] }
  | _ => none }
def CalcheckPartsWrongFalsely : Prop := calcheckPartsRow.holds Try.pinned (OpenSpec.ofChange calcheckPartsWrong)

/-- 'erewhilelaw35.CalcheckMeans': WHATEVER THE INPUT: true; the input reads as it did. -/
def calcheckMeansSpec : ChangeSpec := { name := "calcheckMeans", fn := fun _ => fun
  | [d1, d2, d3, d4] => { results := [.lit (.bool true)], args := [d1, d2, d3, d4] }
  | _ => none }
def calcheckMeansRow : OpenClaim := { program := "ytlfkdbfbkgcgnaa", sum := "6fc46c6bcb2199de65cc84053f08ddbb509c29eef8e4f7706ab23878deab225e", func := "erewhile/erewhilelaw35.CalcheckMeans", spec := "calcheckMeans", apart := false }
def CalcheckMeansSaid : Prop := calcheckMeansRow.holds Try.pinned (OpenSpec.ofChange calcheckMeansSpec)

/-- ITS FALSE NEIGHBOUR: 'it returns false'. Refute it at one input. -/
def calcheckMeansWrong : ChangeSpec := { name := "calcheckMeans", fn := fun _ => fun
  | [d1, d2, d3, d4] => { results := [.lit (.bool false)], args := [d1, d2, d3, d4] }
  | _ => none }
def CalcheckMeansWrongFalsely : Prop := calcheckMeansRow.holds Try.pinned (OpenSpec.ofChange calcheckMeansWrong)

/-- 'erewhilelaw35.CalcheckTwice': WHATEVER THE INPUT: true; the input reads as it did. -/
def calcheckTwiceSpec : ChangeSpec := { name := "calcheckTwice", fn := fun _ => fun
  | [d1, d2] => { results := [.lit (.bool true)], args := [d1, d2] }
  | _ => none }
def calcheckTwiceRow : OpenClaim := { program := "ytlfkdbfbkgcgnaa", sum := "6fc46c6bcb2199de65cc84053f08ddbb509c29eef8e4f7706ab23878deab225e", func := "erewhile/erewhilelaw35.CalcheckTwice", spec := "calcheckTwice", apart := false }
def CalcheckTwiceSaid : Prop := calcheckTwiceRow.holds Try.pinned (OpenSpec.ofChange calcheckTwiceSpec)

/-- ITS FALSE NEIGHBOUR: 'it returns false'. Refute it at one input. -/
def calcheckTwiceWrong : ChangeSpec := { name := "calcheckTwice", fn := fun _ => fun
  | [d1, d2] => { results := [.lit (.bool false)], args := [d1, d2] }
  | _ => none }
def CalcheckTwiceWrongFalsely : Prop := calcheckTwiceRow.holds Try.pinned (OpenSpec.ofChange calcheckTwiceWrong)

/-- 'erewhilelaw35.CalcheckOrder': WHATEVER THE INPUT: true; the input reads as it did. -/
def calcheckOrderSpec : ChangeSpec := { name := "calcheckOrder", fn := fun _ => fun
  | [d1, d2] => { results := [.lit (.bool true)], args := [d1, d2] }
  | _ => none }
def calcheckOrderRow : OpenClaim := { program := "ytlfkdbfbkgcgnaa", sum := "6fc46c6bcb2199de65cc84053f08ddbb509c29eef8e4f7706ab23878deab225e", func := "erewhile/erewhilelaw35.CalcheckOrder", spec := "calcheckOrder", apart := false }
def CalcheckOrderSaid : Prop := calcheckOrderRow.holds Try.pinned (OpenSpec.ofChange calcheckOrderSpec)

/-- ITS FALSE NEIGHBOUR: 'it returns false'. Refute it at one input. -/
def calcheckOrderWrong : ChangeSpec := { name := "calcheckOrder", fn := fun _ => fun
  | [d1, d2] => { results := [.lit (.bool false)], args := [d1, d2] }
  | _ => none }
def CalcheckOrderWrongFalsely : Prop := calcheckOrderRow.holds Try.pinned (OpenSpec.ofChange calcheckOrderWrong)

/-- 'erewhilelaw35.CalcheckSound': WHATEVER THE INPUT: true; the input reads as it did. -/
def calcheckSoundSpec : ChangeSpec := { name := "calcheckSound", fn := fun _ => fun
  | [d1, d2] => { results := [.lit (.bool true)], args := [d1, d2] }
  | _ => none }
def calcheckSoundRow : OpenClaim := { program := "ytlfkdbfbkgcgnaa", sum := "6fc46c6bcb2199de65cc84053f08ddbb509c29eef8e4f7706ab23878deab225e", func := "erewhile/erewhilelaw35.CalcheckSound", spec := "calcheckSound", apart := false }
def CalcheckSoundSaid : Prop := calcheckSoundRow.holds Try.pinned (OpenSpec.ofChange calcheckSoundSpec)

/-- ITS FALSE NEIGHBOUR: 'it returns false'. Refute it at one input. -/
def calcheckSoundWrong : ChangeSpec := { name := "calcheckSound", fn := fun _ => fun
  | [d1, d2] => { results := [.lit (.bool false)], args := [d1, d2] }
  | _ => none }
def CalcheckSoundWrongFalsely : Prop := calcheckSoundRow.holds Try.pinned (OpenSpec.ofChange calcheckSoundWrong)

/- THE SECOND FORM. 'bulk': how many values and letters a reading holds, each counted each time it is reached (what is shared counts as often as it is met; a slice's spare places count too). A statement '..UptoSaid' is the law's where the arguments, and the package variables that the reading takes, are together of bulk at most 1048576: NARROWER than '..Said'. Prove '..Said' where nothing that the law and all that it calls make is longer than what came in: it says more and counts as full. Else prove '..UptoSaid'. A law counts once. -/
mutual
def uptoBulk {H : Type} : DataW H → Nat
  | .lit (.string bytes) => bytes.length + 1
  | .lit _ => 1
  | .nil => 1
  | .ptr d => uptoBulk d + 1
  | .slice elems spare => uptoBulkAll elems + uptoBulkAll spare + 1
  | .agg parts => uptoBulkAll parts + 1
  | .iface _ d => uptoBulk d + 1
  | .map entries => uptoBulkEntries entries + 1
  | .held _ => 1
def uptoBulkAll {H : Type} : List (DataW H) → Nat
  | [] => 0
  | d :: r => uptoBulk d + uptoBulkAll r
def uptoBulkEntries {H : Type} : List (Lit × DataW H) → Nat
  | [] => 0
  | x :: r => uptoBulkEntry x + uptoBulkEntries r
def uptoBulkEntry {H : Type} : Lit × DataW H → Nat
  | (.string bytes, d) => bytes.length + uptoBulk d + 1
  | (_, d) => uptoBulk d + 1
 end
def uptoSmall : (H : Type) → List (DataW H) → Bool := fun _ ds => decide (uptoBulkAll ds ≤ 1048576)
def OpenSpec.upto (s : _root_.Go.ChangeSpec) : _root_.Go.OpenSpec := { _root_.Go.OpenSpec.ofChange s with cond := some uptoSmall }

/-- 'erewhilelaw35.CalcheckIs', WHERE WHAT IT READS IS OF BULK AT MOST 1048576: true; the input reads as it did. -/
def calcheckIsUptoRow : OpenClaim := { program := "ytlfkdbfbkgcgnaa", sum := "6fc46c6bcb2199de65cc84053f08ddbb509c29eef8e4f7706ab23878deab225e", func := "erewhile/erewhilelaw35.CalcheckIs", spec := "calcheckIs", apart := false, narrowed := true }
def CalcheckIsUptoSaid : Prop := calcheckIsUptoRow.holds Try.pinned (OpenSpec.upto calcheckIsSpec)

/-- 'erewhilelaw35.CalcheckLeft', WHERE WHAT IT READS IS OF BULK AT MOST 1048576: true; the input reads as it did. -/
def calcheckLeftUptoRow : OpenClaim := { program := "ytlfkdbfbkgcgnaa", sum := "6fc46c6bcb2199de65cc84053f08ddbb509c29eef8e4f7706ab23878deab225e", func := "erewhile/erewhilelaw35.CalcheckLeft", spec := "calcheckLeft", apart := false, narrowed := true }
def CalcheckLeftUptoSaid : Prop := calcheckLeftUptoRow.holds Try.pinned (OpenSpec.upto calcheckLeftSpec)

/-- 'erewhilelaw35.CalcheckParts', WHERE WHAT IT READS IS OF BULK AT MOST 1048576: true; the input reads as it did. -/
def calcheckPartsUptoRow : OpenClaim := { program := "ytlfkdbfbkgcgnaa", sum := "6fc46c6bcb2199de65cc84053f08ddbb509c29eef8e4f7706ab23878deab225e", func := "erewhile/erewhilelaw35.CalcheckParts", spec := "calcheckParts", apart := false, narrowed := true }
def CalcheckPartsUptoSaid : Prop := calcheckPartsUptoRow.holds Try.pinned (OpenSpec.upto calcheckPartsSpec)

/-- 'erewhilelaw35.CalcheckMeans', WHERE WHAT IT READS IS OF BULK AT MOST 1048576: true; the input reads as it did. -/
def calcheckMeansUptoRow : OpenClaim := { program := "ytlfkdbfbkgcgnaa", sum := "6fc46c6bcb2199de65cc84053f08ddbb509c29eef8e4f7706ab23878deab225e", func := "erewhile/erewhilelaw35.CalcheckMeans", spec := "calcheckMeans", apart := false, narrowed := true }
def CalcheckMeansUptoSaid : Prop := calcheckMeansUptoRow.holds Try.pinned (OpenSpec.upto calcheckMeansSpec)

/-- 'erewhilelaw35.CalcheckTwice', WHERE WHAT IT READS IS OF BULK AT MOST 1048576: true; the input reads as it did. -/
def calcheckTwiceUptoRow : OpenClaim := { program := "ytlfkdbfbkgcgnaa", sum := "6fc46c6bcb2199de65cc84053f08ddbb509c29eef8e4f7706ab23878deab225e", func := "erewhile/erewhilelaw35.CalcheckTwice", spec := "calcheckTwice", apart := false, narrowed := true }
def CalcheckTwiceUptoSaid : Prop := calcheckTwiceUptoRow.holds Try.pinned (OpenSpec.upto calcheckTwiceSpec)

/-- 'erewhilelaw35.CalcheckOrder', WHERE WHAT IT READS IS OF BULK AT MOST 1048576: true; the input reads as it did. -/
def calcheckOrderUptoRow : OpenClaim := { program := "ytlfkdbfbkgcgnaa", sum := "6fc46c6bcb2199de65cc84053f08ddbb509c29eef8e4f7706ab23878deab225e", func := "erewhile/erewhilelaw35.CalcheckOrder", spec := "calcheckOrder", apart := false, narrowed := true }
def CalcheckOrderUptoSaid : Prop := calcheckOrderUptoRow.holds Try.pinned (OpenSpec.upto calcheckOrderSpec)

/-- 'erewhilelaw35.CalcheckSound', WHERE WHAT IT READS IS OF BULK AT MOST 1048576: true; the input reads as it did. -/
def calcheckSoundUptoRow : OpenClaim := { program := "ytlfkdbfbkgcgnaa", sum := "6fc46c6bcb2199de65cc84053f08ddbb509c29eef8e4f7706ab23878deab225e", func := "erewhile/erewhilelaw35.CalcheckSound", spec := "calcheckSound", apart := false, narrowed := true }
def CalcheckSoundUptoSaid : Prop := calcheckSoundUptoRow.holds Try.pinned (OpenSpec.upto calcheckSoundSpec)

end Rows
end Go.Proofs.Ytlfkdbfbkgcgnaa
