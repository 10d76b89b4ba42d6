/-
  No cell of these rows narrows 'for every input' (looked for: loops, veiled, ifaces, maps, wideKeys, modest, calm, conditions, laid).
  DERIVED. THE GIVEN ROWS OF THIS SEAT. 7 by the template 'for every input the law returns true; each argument reads behind the call as it read before'; 0 by the template 'total and deterministic' (their statements: YtaolpniigjmccaaTotals.lean).
  GIVEN WITH THE SEED: the statements are not yours to turn. If you find one false, say at which input.
  Laid BY PROGRAM, IN A SANDBOX (cutbox-rows.mjs): the forced cells as the released guide's own fill.sh prints them over the translation 74ed5d3e2f7f7555… (all of the seat's roots in one cut). By AI agents, Wed Nov 11 2026. No macro, syntax, notation, axiom, sorry.
-/
import Derived.Test.YtaolpniigjmccaaChecked
import GoSem.Claim
import GoSem.ClaimJoined
import GoSem.ClaimMapViews
import Derived.JoinedTies
import Derived.KernelRfl
namespace Go.Proofs.Ytaolpniigjmccaa
/- THE CELL 'sum', in the pinned program and in every row, IS THE sha256 OF THE DUMP (.gsa) THAT YtaolpniigjmccaaProg.lean LOADS. Nothing in Lean hashes anything: it is a label: what it is worth is what the hold of that sum in a sandbox is worth. -/
noncomputable def Try.pinned : Pinned := { name := "ytaolpniigjmccaa", sum := "74ed5d3e2f7f7555f9f42c65af9fd492564c7f8b7efdd6b8fb552ad5ada24378", checked := Try.checked }
namespace Rows
def none {H : Type} : Left H := { results := [], args := [] }

/-- 'erewhilelaw29.BranchApart': WHATEVER THE INPUT: true; the input reads as it did. -/
def branchApartSpec : ChangeSpec := { name := "branchApart", fn := fun _ => fun
  | [d1, d2, d3, d4] => { results := [.lit (.bool true)], args := [d1, d2, d3, d4] }
  | _ => none }
def branchApartRow : OpenClaim := { program := "ytaolpniigjmccaa", sum := "74ed5d3e2f7f7555f9f42c65af9fd492564c7f8b7efdd6b8fb552ad5ada24378", func := "erewhile/erewhilelaw29.BranchApart", spec := "branchApart", apart := false }
def BranchApartSaid : Prop := branchApartRow.holds Try.pinned (OpenSpec.ofChange branchApartSpec)

/-- ITS FALSE NEIGHBOUR: 'it returns false'. Refute it at one input. -/
def branchApartWrong : ChangeSpec := { name := "branchApart", fn := fun _ => fun
  | [d1, d2, d3, d4] => { results := [.lit (.bool false)], args := [d1, d2, d3, d4] }
  | _ => none }
def BranchApartWrongFalsely : Prop := branchApartRow.holds Try.pinned (OpenSpec.ofChange branchApartWrong)

/-- 'erewhilelaw29.BranchLines': WHATEVER THE INPUT: true; the input reads as it did. -/
def branchLinesSpec : ChangeSpec := { name := "branchLines", fn := fun _ => fun
  | [d1, d2, d3] => { results := [.lit (.bool true)], args := [d1, d2, d3] }
  | _ => none }
def branchLinesRow : OpenClaim := { program := "ytaolpniigjmccaa", sum := "74ed5d3e2f7f7555f9f42c65af9fd492564c7f8b7efdd6b8fb552ad5ada24378", func := "erewhile/erewhilelaw29.BranchLines", spec := "branchLines", apart := false }
def BranchLinesSaid : Prop := branchLinesRow.holds Try.pinned (OpenSpec.ofChange branchLinesSpec)

/-- ITS FALSE NEIGHBOUR: 'it returns false'. Refute it at one input. -/
def branchLinesWrong : ChangeSpec := { name := "branchLines", fn := fun _ => fun
  | [d1, d2, d3] => { results := [.lit (.bool false)], args := [d1, d2, d3] }
  | _ => none }
def BranchLinesWrongFalsely : Prop := branchLinesRow.holds Try.pinned (OpenSpec.ofChange branchLinesWrong)

/-- 'erewhilelaw29.BranchDeep': WHATEVER THE INPUT: true; the input reads as it did. -/
def branchDeepSpec : ChangeSpec := { name := "branchDeep", fn := fun _ => fun
  | [d1, d2, d3, d4] => { results := [.lit (.bool true)], args := [d1, d2, d3, d4] }
  | _ => none }
def branchDeepRow : OpenClaim := { program := "ytaolpniigjmccaa", sum := "74ed5d3e2f7f7555f9f42c65af9fd492564c7f8b7efdd6b8fb552ad5ada24378", func := "erewhile/erewhilelaw29.BranchDeep", spec := "branchDeep", apart := false }
def BranchDeepSaid : Prop := branchDeepRow.holds Try.pinned (OpenSpec.ofChange branchDeepSpec)

/-- ITS FALSE NEIGHBOUR: 'it returns false'. Refute it at one input. -/
def branchDeepWrong : ChangeSpec := { name := "branchDeep", fn := fun _ => fun
  | [d1, d2, d3, d4] => { results := [.lit (.bool false)], args := [d1, d2, d3, d4] }
  | _ => none }
def BranchDeepWrongFalsely : Prop := branchDeepRow.holds Try.pinned (OpenSpec.ofChange branchDeepWrong)

/-- 'erewhilelaw29.BranchDrops': WHATEVER THE INPUT: true; the input reads as it did. -/
def branchDropsSpec : ChangeSpec := { name := "branchDrops", fn := fun _ => fun
  | [d1, d2] => { results := [.lit (.bool true)], args := [d1, d2] }
  | _ => none }
def branchDropsRow : OpenClaim := { program := "ytaolpniigjmccaa", sum := "74ed5d3e2f7f7555f9f42c65af9fd492564c7f8b7efdd6b8fb552ad5ada24378", func := "erewhile/erewhilelaw29.BranchDrops", spec := "branchDrops", unfollowed := true, recurses := true, apart := false }
def BranchDropsSaid : Prop := branchDropsRow.holds Try.pinned (OpenSpec.ofChange branchDropsSpec)

/-- ITS FALSE NEIGHBOUR: 'it returns false'. Refute it at one input. -/
def branchDropsWrong : ChangeSpec := { name := "branchDrops", fn := fun _ => fun
  | [d1, d2] => { results := [.lit (.bool false)], args := [d1, d2] }
  | _ => none }
def BranchDropsWrongFalsely : Prop := branchDropsRow.holds Try.pinned (OpenSpec.ofChange branchDropsWrong)

/-- 'erewhilelaw29.BranchFree': WHATEVER THE INPUT: true; the input reads as it did. -/
def branchFreeSpec : ChangeSpec := { name := "branchFree", fn := fun _ => fun
  | [d1, d2] => { results := [.lit (.bool true)], args := [d1, d2] }
  | _ => none }
def branchFreeRow : OpenClaim := { program := "ytaolpniigjmccaa", sum := "74ed5d3e2f7f7555f9f42c65af9fd492564c7f8b7efdd6b8fb552ad5ada24378", func := "erewhile/erewhilelaw29.BranchFree", spec := "branchFree", unfollowed := true, recurses := true, apart := false }
def BranchFreeSaid : Prop := branchFreeRow.holds Try.pinned (OpenSpec.ofChange branchFreeSpec)

/-- ITS FALSE NEIGHBOUR: 'it returns false'. Refute it at one input. -/
def branchFreeWrong : ChangeSpec := { name := "branchFree", fn := fun _ => fun
  | [d1, d2] => { results := [.lit (.bool false)], args := [d1, d2] }
  | _ => none }
def BranchFreeWrongFalsely : Prop := branchFreeRow.holds Try.pinned (OpenSpec.ofChange branchFreeWrong)

/-- 'erewhilelaw29.BranchPlays': WHATEVER THE INPUT: true; the input reads as it did. -/
def branchPlaysSpec : ChangeSpec := { name := "branchPlays", fn := fun _ => fun
  | [d1, d2, d3] => { results := [.lit (.bool true)], args := [d1, d2, d3] }
  | _ => none }
def branchPlaysRow : OpenClaim := { program := "ytaolpniigjmccaa", sum := "74ed5d3e2f7f7555f9f42c65af9fd492564c7f8b7efdd6b8fb552ad5ada24378", func := "erewhile/erewhilelaw29.BranchPlays", spec := "branchPlays", unfollowed := true, recurses := true, apart := false }
def BranchPlaysSaid : Prop := branchPlaysRow.holds Try.pinned (OpenSpec.ofChange branchPlaysSpec)

/-- ITS FALSE NEIGHBOUR: 'it returns false'. Refute it at one input. -/
def branchPlaysWrong : ChangeSpec := { name := "branchPlays", fn := fun _ => fun
  | [d1, d2, d3] => { results := [.lit (.bool false)], args := [d1, d2, d3] }
  | _ => none }
def BranchPlaysWrongFalsely : Prop := branchPlaysRow.holds Try.pinned (OpenSpec.ofChange branchPlaysWrong)

/-- 'erewhilelaw29.BranchNone': WHATEVER THE INPUT: true; the input reads as it did. -/
def branchNoneSpec : ChangeSpec := { name := "branchNone", fn := fun _ => fun
  | [d1, d2] => { results := [.lit (.bool true)], args := [d1, d2] }
  | _ => none }
def branchNoneRow : OpenClaim := { program := "ytaolpniigjmccaa", sum := "74ed5d3e2f7f7555f9f42c65af9fd492564c7f8b7efdd6b8fb552ad5ada24378", func := "erewhile/erewhilelaw29.BranchNone", spec := "branchNone", unfollowed := true, recurses := true, apart := false }
def BranchNoneSaid : Prop := branchNoneRow.holds Try.pinned (OpenSpec.ofChange branchNoneSpec)

/-- ITS FALSE NEIGHBOUR: 'it returns false'. Refute it at one input. -/
def branchNoneWrong : ChangeSpec := { name := "branchNone", fn := fun _ => fun
  | [d1, d2] => { results := [.lit (.bool false)], args := [d1, d2] }
  | _ => none }
def BranchNoneWrongFalsely : Prop := branchNoneRow.holds Try.pinned (OpenSpec.ofChange branchNoneWrong)

/- THE SECOND FORM. 'bulk': how many values and letters a reading holds, each counted each time it is reached (what is shared counts as often as it is met; a slice's spare places count too). A statement '..UptoSaid' is the law's where the arguments, and the package variables that the reading takes, are together of bulk at most 1048576: NARROWER than '..Said'. Prove '..Said' where nothing that the law and all that it calls make is longer than what came in: it says more and counts as full. Else prove '..UptoSaid'. A law counts once. -/
mutual
def uptoBulk {H : Type} : DataW H → Nat
  | .lit (.string bytes) => bytes.length + 1
  | .lit _ => 1
  | .nil => 1
  | .ptr d => uptoBulk d + 1
  | .slice elems spare => uptoBulkAll elems + uptoBulkAll spare + 1
  | .agg parts => uptoBulkAll parts + 1
  | .iface _ d => uptoBulk d + 1
  | .map entries => uptoBulkEntries entries + 1
  | .held _ => 1
def uptoBulkAll {H : Type} : List (DataW H) → Nat
  | [] => 0
  | d :: r => uptoBulk d + uptoBulkAll r
def uptoBulkEntries {H : Type} : List (Lit × DataW H) → Nat
  | [] => 0
  | x :: r => uptoBulkEntry x + uptoBulkEntries r
def uptoBulkEntry {H : Type} : Lit × DataW H → Nat
  | (.string bytes, d) => bytes.length + uptoBulk d + 1
  | (_, d) => uptoBulk d + 1
 end
def uptoSmall : (H : Type) → List (DataW H) → Bool := fun _ ds => decide (uptoBulkAll ds ≤ 1048576)
def OpenSpec.upto (s : _root_.Go.ChangeSpec) : _root_.Go.OpenSpec := { _root_.Go.OpenSpec.ofChange s with cond := some uptoSmall }

/-- 'erewhilelaw29.BranchApart', WHERE WHAT IT READS IS OF BULK AT MOST 1048576: true; the input reads as it did. -/
def branchApartUptoRow : OpenClaim := { program := "ytaolpniigjmccaa", sum := "74ed5d3e2f7f7555f9f42c65af9fd492564c7f8b7efdd6b8fb552ad5ada24378", func := "erewhile/erewhilelaw29.BranchApart", spec := "branchApart", apart := false, narrowed := true }
def BranchApartUptoSaid : Prop := branchApartUptoRow.holds Try.pinned (OpenSpec.upto branchApartSpec)

/-- 'erewhilelaw29.BranchLines', WHERE WHAT IT READS IS OF BULK AT MOST 1048576: true; the input reads as it did. -/
def branchLinesUptoRow : OpenClaim := { program := "ytaolpniigjmccaa", sum := "74ed5d3e2f7f7555f9f42c65af9fd492564c7f8b7efdd6b8fb552ad5ada24378", func := "erewhile/erewhilelaw29.BranchLines", spec := "branchLines", apart := false, narrowed := true }
def BranchLinesUptoSaid : Prop := branchLinesUptoRow.holds Try.pinned (OpenSpec.upto branchLinesSpec)

/-- 'erewhilelaw29.BranchDeep', WHERE WHAT IT READS IS OF BULK AT MOST 1048576: true; the input reads as it did. -/
def branchDeepUptoRow : OpenClaim := { program := "ytaolpniigjmccaa", sum := "74ed5d3e2f7f7555f9f42c65af9fd492564c7f8b7efdd6b8fb552ad5ada24378", func := "erewhile/erewhilelaw29.BranchDeep", spec := "branchDeep", apart := false, narrowed := true }
def BranchDeepUptoSaid : Prop := branchDeepUptoRow.holds Try.pinned (OpenSpec.upto branchDeepSpec)

/-- 'erewhilelaw29.BranchDrops', WHERE WHAT IT READS IS OF BULK AT MOST 1048576: true; the input reads as it did. -/
def branchDropsUptoRow : OpenClaim := { program := "ytaolpniigjmccaa", sum := "74ed5d3e2f7f7555f9f42c65af9fd492564c7f8b7efdd6b8fb552ad5ada24378", func := "erewhile/erewhilelaw29.BranchDrops", spec := "branchDrops", unfollowed := true, recurses := true, apart := false, narrowed := true }
def BranchDropsUptoSaid : Prop := branchDropsUptoRow.holds Try.pinned (OpenSpec.upto branchDropsSpec)

/-- 'erewhilelaw29.BranchFree', WHERE WHAT IT READS IS OF BULK AT MOST 1048576: true; the input reads as it did. -/
def branchFreeUptoRow : OpenClaim := { program := "ytaolpniigjmccaa", sum := "74ed5d3e2f7f7555f9f42c65af9fd492564c7f8b7efdd6b8fb552ad5ada24378", func := "erewhile/erewhilelaw29.BranchFree", spec := "branchFree", unfollowed := true, recurses := true, apart := false, narrowed := true }
def BranchFreeUptoSaid : Prop := branchFreeUptoRow.holds Try.pinned (OpenSpec.upto branchFreeSpec)

/-- 'erewhilelaw29.BranchPlays', WHERE WHAT IT READS IS OF BULK AT MOST 1048576: true; the input reads as it did. -/
def branchPlaysUptoRow : OpenClaim := { program := "ytaolpniigjmccaa", sum := "74ed5d3e2f7f7555f9f42c65af9fd492564c7f8b7efdd6b8fb552ad5ada24378", func := "erewhile/erewhilelaw29.BranchPlays", spec := "branchPlays", unfollowed := true, recurses := true, apart := false, narrowed := true }
def BranchPlaysUptoSaid : Prop := branchPlaysUptoRow.holds Try.pinned (OpenSpec.upto branchPlaysSpec)

/-- 'erewhilelaw29.BranchNone', WHERE WHAT IT READS IS OF BULK AT MOST 1048576: true; the input reads as it did. -/
def branchNoneUptoRow : OpenClaim := { program := "ytaolpniigjmccaa", sum := "74ed5d3e2f7f7555f9f42c65af9fd492564c7f8b7efdd6b8fb552ad5ada24378", func := "erewhile/erewhilelaw29.BranchNone", spec := "branchNone", unfollowed := true, recurses := true, apart := false, narrowed := true }
def BranchNoneUptoSaid : Prop := branchNoneUptoRow.holds Try.pinned (OpenSpec.upto branchNoneSpec)

end Rows
end Go.Proofs.Ytaolpniigjmccaa
