/-
  NARROWER THAN 'FOR EVERY INPUT', by the rows' own cells (each row's printed sentence says how): CalruleParses: laid · CalruleBeside: laid · CalruleTexts: laid · CalruleBack: laid · CalruleAgain: laid · CalruleBlanks: laid · CalruleOne: laid · CalruleLines: laid · CalruleFronts: laid · CalcheckText: laid.
  DERIVED. THE GIVEN ROWS OF THIS SEAT. 10 by the template 'for every input the law returns true; each argument reads behind the call as it read before'; 0 by the template 'total and deterministic' (their statements: YthnifjggnjcenaaDoorTotals.lean).
  GIVEN WITH THE SEED: the statements are not yours to turn. If you find one false, say at which input.
  Laid BY PROGRAM, IN A SANDBOX (cutbox-rows.mjs): the forced cells as the released guide's own fill.sh prints them over the translation 210367713244cf02… (all of the seat's roots in one cut). By AI agents, Wed Nov 11 2026. No macro, syntax, notation, axiom, sorry.
-/
import Derived.Test.YthnifjggnjcenaaDoorChecked
import GoSem.Claim
import GoSem.ClaimJoined
import GoSem.ClaimMapViews
import Derived.JoinedTies
import Derived.KernelRfl
namespace Go.Proofs.YthnifjggnjcenaaDoor
/- THE CELL 'sum', in the pinned program and in every row, IS THE sha256 OF THE DUMP (.gsa) THAT YthnifjggnjcenaaDoorProg.lean LOADS. Nothing in Lean hashes anything: it is a label: what it is worth is what the hold of that sum in a sandbox is worth. -/
noncomputable def Tryd.pinned : Pinned := { name := "ythnifjggnjcenaadoor", sum := "210367713244cf02e1aba8666eb513cbc502f407c915f3a67a2afbd9a5018ae5", checked := Tryd.checked }
namespace Rows
def none {H : Type} : Left H := { results := [], args := [] }

/- WHAT THE LISTED PACKAGE-LEVEL VARIABLES READ AS WHEN THE CALL BEGINS. Each datum BY PROGRAM (the guide's laid-datum.mjs) off the statement by which the dump's own 'gosem.cut.vars' lays the variable. In a bare row this is a premise. The card (YthnifjggnjcenaaDoorCards.lean) ties it to the program's text. -/
def laid_erewhile_caltok_units {H : Type} : DataW H := .map [(.int .u8 100, .lit (.int .i64 1440)), (.int .u8 104, .lit (.int .i64 60)), (.int .u8 109, .lit (.int .i64 1))]
def laid_math_bits_deBruijn32tab {H : Type} : DataW H := .agg [.lit (.int .u8 0), .lit (.int .u8 1), .lit (.int .u8 28), .lit (.int .u8 2), .lit (.int .u8 29), .lit (.int .u8 14), .lit (.int .u8 24), .lit (.int .u8 3), .lit (.int .u8 30), .lit (.int .u8 22), .lit (.int .u8 20), .lit (.int .u8 15), .lit (.int .u8 25), .lit (.int .u8 17), .lit (.int .u8 4), .lit (.int .u8 8), .lit (.int .u8 31), .lit (.int .u8 27), .lit (.int .u8 13), .lit (.int .u8 23), .lit (.int .u8 21), .lit (.int .u8 19), .lit (.int .u8 16), .lit (.int .u8 7), .lit (.int .u8 26), .lit (.int .u8 12), .lit (.int .u8 18), .lit (.int .u8 6), .lit (.int .u8 11), .lit (.int .u8 5), .lit (.int .u8 10), .lit (.int .u8 9)]
def laid_math_bits_deBruijn64tab {H : Type} : DataW H := .agg [.lit (.int .u8 0), .lit (.int .u8 1), .lit (.int .u8 56), .lit (.int .u8 2), .lit (.int .u8 57), .lit (.int .u8 49), .lit (.int .u8 28), .lit (.int .u8 3), .lit (.int .u8 61), .lit (.int .u8 58), .lit (.int .u8 42), .lit (.int .u8 50), .lit (.int .u8 38), .lit (.int .u8 29), .lit (.int .u8 17), .lit (.int .u8 4), .lit (.int .u8 62), .lit (.int .u8 47), .lit (.int .u8 59), .lit (.int .u8 36), .lit (.int .u8 45), .lit (.int .u8 43), .lit (.int .u8 51), .lit (.int .u8 22), .lit (.int .u8 53), .lit (.int .u8 39), .lit (.int .u8 33), .lit (.int .u8 30), .lit (.int .u8 24), .lit (.int .u8 18), .lit (.int .u8 12), .lit (.int .u8 5), .lit (.int .u8 63), .lit (.int .u8 55), .lit (.int .u8 48), .lit (.int .u8 27), .lit (.int .u8 60), .lit (.int .u8 41), .lit (.int .u8 37), .lit (.int .u8 16), .lit (.int .u8 46), .lit (.int .u8 35), .lit (.int .u8 44), .lit (.int .u8 21), .lit (.int .u8 52), .lit (.int .u8 32), .lit (.int .u8 23), .lit (.int .u8 11), .lit (.int .u8 54), .lit (.int .u8 26), .lit (.int .u8 40), .lit (.int .u8 15), .lit (.int .u8 34), .lit (.int .u8 20), .lit (.int .u8 31), .lit (.int .u8 10), .lit (.int .u8 25), .lit (.int .u8 14), .lit (.int .u8 19), .lit (.int .u8 9), .lit (.int .u8 13), .lit (.int .u8 8), .lit (.int .u8 7), .lit (.int .u8 6)]
def laid_internal_strconv_uint64pow10 {H : Type} : DataW H := .agg [.lit (.int .u64 1), .lit (.int .u64 10), .lit (.int .u64 100), .lit (.int .u64 1000), .lit (.int .u64 10000), .lit (.int .u64 100000), .lit (.int .u64 1000000), .lit (.int .u64 10000000), .lit (.int .u64 100000000), .lit (.int .u64 1000000000), .lit (.int .u64 10000000000), .lit (.int .u64 100000000000), .lit (.int .u64 1000000000000), .lit (.int .u64 10000000000000), .lit (.int .u64 100000000000000), .lit (.int .u64 1000000000000000), .lit (.int .u64 10000000000000000), .lit (.int .u64 100000000000000000), .lit (.int .u64 1000000000000000000), .lit (.int .u64 10000000000000000000)]

/-- 'erewhilelaw34.CalruleParses': WHATEVER THE INPUT: true; the input reads as it did. -/
def calruleParsesSpec : ChangeSpec := { name := "calruleParses", fn := fun _ => fun
  | [d] => { results := [.lit (.bool true)], args := [d] }
  | _ => none }
def calruleParsesRow : OpenClaim := { program := "ythnifjggnjcenaadoor", sum := "210367713244cf02e1aba8666eb513cbc502f407c915f3a67a2afbd9a5018ae5", func := "erewhile/erewhilelaw34.CalruleParses", spec := "calruleParses", unfollowed := true, recurses := true, named := ["erewhile/caltok.units"], apart := false, laid := [("erewhile/caltok.units", laid_erewhile_caltok_units)] }
def CalruleParsesSaid : Prop := calruleParsesRow.holds Tryd.pinned (OpenSpec.ofChange calruleParsesSpec)

/-- ITS FALSE NEIGHBOUR: 'it returns false'. Refute it at one input. -/
def calruleParsesWrong : ChangeSpec := { name := "calruleParses", fn := fun _ => fun
  | [d] => { results := [.lit (.bool false)], args := [d] }
  | _ => none }
def CalruleParsesWrongFalsely : Prop := calruleParsesRow.holds Tryd.pinned (OpenSpec.ofChange calruleParsesWrong)

/-- 'erewhilelaw34.CalruleBeside': WHATEVER THE INPUT: true; the input reads as it did. -/
def calruleBesideSpec : ChangeSpec := { name := "calruleBeside", fn := fun _ => fun
  | [d1, d2] => { results := [.lit (.bool true)], args := [d1, d2] }
  | _ => none }
def calruleBesideRow : OpenClaim := { program := "ythnifjggnjcenaadoor", sum := "210367713244cf02e1aba8666eb513cbc502f407c915f3a67a2afbd9a5018ae5", func := "erewhile/erewhilelaw34.CalruleBeside", spec := "calruleBeside", unfollowed := true, recurses := true, named := ["erewhile/caltok.units"], apart := false, laid := [("erewhile/caltok.units", laid_erewhile_caltok_units)] }
def CalruleBesideSaid : Prop := calruleBesideRow.holds Tryd.pinned (OpenSpec.ofChange calruleBesideSpec)

/-- ITS FALSE NEIGHBOUR: 'it returns false'. Refute it at one input. -/
def calruleBesideWrong : ChangeSpec := { name := "calruleBeside", fn := fun _ => fun
  | [d1, d2] => { results := [.lit (.bool false)], args := [d1, d2] }
  | _ => none }
def CalruleBesideWrongFalsely : Prop := calruleBesideRow.holds Tryd.pinned (OpenSpec.ofChange calruleBesideWrong)

/-- 'erewhilelaw34.CalruleTexts': WHATEVER THE INPUT: true; the input reads as it did. -/
def calruleTextsSpec : ChangeSpec := { name := "calruleTexts", fn := fun _ => fun
  | [d1, d2] => { results := [.lit (.bool true)], args := [d1, d2] }
  | _ => none }
def calruleTextsRow : OpenClaim := { program := "ythnifjggnjcenaadoor", sum := "210367713244cf02e1aba8666eb513cbc502f407c915f3a67a2afbd9a5018ae5", func := "erewhile/erewhilelaw34.CalruleTexts", spec := "calruleTexts", inPlace := ["internal/abi.NoEscape"], unfollowed := true, recurses := true, named := ["erewhile/caltok.units", "internal/strconv.uint64pow10", "math/bits.deBruijn32tab", "math/bits.deBruijn64tab"], apart := false, laid := [("math/bits.deBruijn32tab", laid_math_bits_deBruijn32tab), ("math/bits.deBruijn64tab", laid_math_bits_deBruijn64tab), ("internal/strconv.uint64pow10", laid_internal_strconv_uint64pow10), ("erewhile/caltok.units", laid_erewhile_caltok_units)] }
def CalruleTextsSaid : Prop := calruleTextsRow.holds Tryd.pinned (OpenSpec.ofChange calruleTextsSpec)

/-- ITS FALSE NEIGHBOUR: 'it returns false'. Refute it at one input. -/
def calruleTextsWrong : ChangeSpec := { name := "calruleTexts", fn := fun _ => fun
  | [d1, d2] => { results := [.lit (.bool false)], args := [d1, d2] }
  | _ => none }
def CalruleTextsWrongFalsely : Prop := calruleTextsRow.holds Tryd.pinned (OpenSpec.ofChange calruleTextsWrong)

/-- 'erewhilelaw34.CalruleBack': WHATEVER THE INPUT: true; the input reads as it did. -/
def calruleBackSpec : ChangeSpec := { name := "calruleBack", fn := fun _ => fun
  | [d] => { results := [.lit (.bool true)], args := [d] }
  | _ => none }
def calruleBackRow : OpenClaim := { program := "ythnifjggnjcenaadoor", sum := "210367713244cf02e1aba8666eb513cbc502f407c915f3a67a2afbd9a5018ae5", func := "erewhile/erewhilelaw34.CalruleBack", spec := "calruleBack", inPlace := ["internal/abi.NoEscape"], unfollowed := true, recurses := true, named := ["erewhile/caltok.units", "internal/strconv.uint64pow10", "math/bits.deBruijn32tab", "math/bits.deBruijn64tab"], apart := false, laid := [("math/bits.deBruijn32tab", laid_math_bits_deBruijn32tab), ("math/bits.deBruijn64tab", laid_math_bits_deBruijn64tab), ("internal/strconv.uint64pow10", laid_internal_strconv_uint64pow10), ("erewhile/caltok.units", laid_erewhile_caltok_units)] }
def CalruleBackSaid : Prop := calruleBackRow.holds Tryd.pinned (OpenSpec.ofChange calruleBackSpec)

/-- ITS FALSE NEIGHBOUR: 'it returns false'. Refute it at one input. -/
def calruleBackWrong : ChangeSpec := { name := "calruleBack", fn := fun _ => fun
  | [d] => { results := [.lit (.bool false)], args := [d] }
  | _ => none }
def CalruleBackWrongFalsely : Prop := calruleBackRow.holds Tryd.pinned (OpenSpec.ofChange calruleBackWrong)

/-- 'erewhilelaw34.CalruleAgain': WHATEVER THE INPUT: true; the input reads as it did. -/
def calruleAgainSpec : ChangeSpec := { name := "calruleAgain", fn := fun _ => fun
  | [d] => { results := [.lit (.bool true)], args := [d] }
  | _ => none }
def calruleAgainRow : OpenClaim := { program := "ythnifjggnjcenaadoor", sum := "210367713244cf02e1aba8666eb513cbc502f407c915f3a67a2afbd9a5018ae5", func := "erewhile/erewhilelaw34.CalruleAgain", spec := "calruleAgain", inPlace := ["internal/abi.NoEscape"], unfollowed := true, recurses := true, named := ["erewhile/caltok.units", "internal/strconv.uint64pow10", "math/bits.deBruijn32tab", "math/bits.deBruijn64tab"], apart := false, laid := [("math/bits.deBruijn32tab", laid_math_bits_deBruijn32tab), ("math/bits.deBruijn64tab", laid_math_bits_deBruijn64tab), ("internal/strconv.uint64pow10", laid_internal_strconv_uint64pow10), ("erewhile/caltok.units", laid_erewhile_caltok_units)] }
def CalruleAgainSaid : Prop := calruleAgainRow.holds Tryd.pinned (OpenSpec.ofChange calruleAgainSpec)

/-- ITS FALSE NEIGHBOUR: 'it returns false'. Refute it at one input. -/
def calruleAgainWrong : ChangeSpec := { name := "calruleAgain", fn := fun _ => fun
  | [d] => { results := [.lit (.bool false)], args := [d] }
  | _ => none }
def CalruleAgainWrongFalsely : Prop := calruleAgainRow.holds Tryd.pinned (OpenSpec.ofChange calruleAgainWrong)

/-- 'erewhilelaw34.CalruleBlanks': WHATEVER THE INPUT: true; the input reads as it did. -/
def calruleBlanksSpec : ChangeSpec := { name := "calruleBlanks", fn := fun _ => fun
  | [d1, d2] => { results := [.lit (.bool true)], args := [d1, d2] }
  | _ => none }
def calruleBlanksRow : OpenClaim := { program := "ythnifjggnjcenaadoor", sum := "210367713244cf02e1aba8666eb513cbc502f407c915f3a67a2afbd9a5018ae5", func := "erewhile/erewhilelaw34.CalruleBlanks", spec := "calruleBlanks", inPlace := ["internal/abi.NoEscape"], unfollowed := true, recurses := true, named := ["erewhile/caltok.units", "internal/strconv.uint64pow10", "math/bits.deBruijn32tab", "math/bits.deBruijn64tab"], apart := false, laid := [("math/bits.deBruijn32tab", laid_math_bits_deBruijn32tab), ("math/bits.deBruijn64tab", laid_math_bits_deBruijn64tab), ("internal/strconv.uint64pow10", laid_internal_strconv_uint64pow10), ("erewhile/caltok.units", laid_erewhile_caltok_units)] }
def CalruleBlanksSaid : Prop := calruleBlanksRow.holds Tryd.pinned (OpenSpec.ofChange calruleBlanksSpec)

/-- ITS FALSE NEIGHBOUR: 'it returns false'. Refute it at one input. -/
def calruleBlanksWrong : ChangeSpec := { name := "calruleBlanks", fn := fun _ => fun
  | [d1, d2] => { results := [.lit (.bool false)], args := [d1, d2] }
  | _ => none }
def CalruleBlanksWrongFalsely : Prop := calruleBlanksRow.holds Tryd.pinned (OpenSpec.ofChange calruleBlanksWrong)

/-- 'erewhilelaw34.CalruleOne': WHATEVER THE INPUT: true; the input reads as it did. -/
def calruleOneSpec : ChangeSpec := { name := "calruleOne", fn := fun _ => fun
  | [d1, d2] => { results := [.lit (.bool true)], args := [d1, d2] }
  | _ => none }
def calruleOneRow : OpenClaim := { program := "ythnifjggnjcenaadoor", sum := "210367713244cf02e1aba8666eb513cbc502f407c915f3a67a2afbd9a5018ae5", func := "erewhile/erewhilelaw34.CalruleOne", spec := "calruleOne", inPlace := ["internal/abi.NoEscape"], unfollowed := true, recurses := true, named := ["erewhile/caltok.units", "internal/strconv.uint64pow10", "math/bits.deBruijn32tab", "math/bits.deBruijn64tab"], apart := false, laid := [("math/bits.deBruijn32tab", laid_math_bits_deBruijn32tab), ("math/bits.deBruijn64tab", laid_math_bits_deBruijn64tab), ("internal/strconv.uint64pow10", laid_internal_strconv_uint64pow10), ("erewhile/caltok.units", laid_erewhile_caltok_units)] }
def CalruleOneSaid : Prop := calruleOneRow.holds Tryd.pinned (OpenSpec.ofChange calruleOneSpec)

/-- ITS FALSE NEIGHBOUR: 'it returns false'. Refute it at one input. -/
def calruleOneWrong : ChangeSpec := { name := "calruleOne", fn := fun _ => fun
  | [d1, d2] => { results := [.lit (.bool false)], args := [d1, d2] }
  | _ => none }
def CalruleOneWrongFalsely : Prop := calruleOneRow.holds Tryd.pinned (OpenSpec.ofChange calruleOneWrong)

/-- 'erewhilelaw34.CalruleLines': WHATEVER THE INPUT: true; the input reads as it did. -/
def calruleLinesSpec : ChangeSpec := { name := "calruleLines", fn := fun _ => fun
  | [d] => { results := [.lit (.bool true)], args := [d] }
  | _ => none }
def calruleLinesRow : OpenClaim := { program := "ythnifjggnjcenaadoor", sum := "210367713244cf02e1aba8666eb513cbc502f407c915f3a67a2afbd9a5018ae5", func := "erewhile/erewhilelaw34.CalruleLines", spec := "calruleLines", inPlace := ["internal/abi.NoEscape"], unfollowed := true, recurses := true, named := ["erewhile/caltok.units", "internal/strconv.uint64pow10", "math/bits.deBruijn32tab", "math/bits.deBruijn64tab"], apart := false, laid := [("math/bits.deBruijn32tab", laid_math_bits_deBruijn32tab), ("math/bits.deBruijn64tab", laid_math_bits_deBruijn64tab), ("internal/strconv.uint64pow10", laid_internal_strconv_uint64pow10), ("erewhile/caltok.units", laid_erewhile_caltok_units)] }
def CalruleLinesSaid : Prop := calruleLinesRow.holds Tryd.pinned (OpenSpec.ofChange calruleLinesSpec)

/-- ITS FALSE NEIGHBOUR: 'it returns false'. Refute it at one input. -/
def calruleLinesWrong : ChangeSpec := { name := "calruleLines", fn := fun _ => fun
  | [d] => { results := [.lit (.bool false)], args := [d] }
  | _ => none }
def CalruleLinesWrongFalsely : Prop := calruleLinesRow.holds Tryd.pinned (OpenSpec.ofChange calruleLinesWrong)

/-- 'erewhilelaw34.CalruleFronts': WHATEVER THE INPUT: true; the input reads as it did. -/
def calruleFrontsSpec : ChangeSpec := { name := "calruleFronts", fn := fun _ => fun
  | [d1, d2] => { results := [.lit (.bool true)], args := [d1, d2] }
  | _ => none }
def calruleFrontsRow : OpenClaim := { program := "ythnifjggnjcenaadoor", sum := "210367713244cf02e1aba8666eb513cbc502f407c915f3a67a2afbd9a5018ae5", func := "erewhile/erewhilelaw34.CalruleFronts", spec := "calruleFronts", inPlace := ["internal/abi.NoEscape"], unfollowed := true, recurses := true, named := ["erewhile/caltok.units", "internal/strconv.uint64pow10", "math/bits.deBruijn32tab", "math/bits.deBruijn64tab"], apart := false, laid := [("math/bits.deBruijn32tab", laid_math_bits_deBruijn32tab), ("math/bits.deBruijn64tab", laid_math_bits_deBruijn64tab), ("internal/strconv.uint64pow10", laid_internal_strconv_uint64pow10), ("erewhile/caltok.units", laid_erewhile_caltok_units)] }
def CalruleFrontsSaid : Prop := calruleFrontsRow.holds Tryd.pinned (OpenSpec.ofChange calruleFrontsSpec)

/-- ITS FALSE NEIGHBOUR: 'it returns false'. Refute it at one input. -/
def calruleFrontsWrong : ChangeSpec := { name := "calruleFronts", fn := fun _ => fun
  | [d1, d2] => { results := [.lit (.bool false)], args := [d1, d2] }
  | _ => none }
def CalruleFrontsWrongFalsely : Prop := calruleFrontsRow.holds Tryd.pinned (OpenSpec.ofChange calruleFrontsWrong)

/-- 'erewhilelaw35.CalcheckText': WHATEVER THE INPUT: true; the input reads as it did. -/
def calcheckTextSpec : ChangeSpec := { name := "calcheckText", fn := fun _ => fun
  | [d1, d2] => { results := [.lit (.bool true)], args := [d1, d2] }
  | _ => none }
def calcheckTextRow : OpenClaim := { program := "ythnifjggnjcenaadoor", sum := "210367713244cf02e1aba8666eb513cbc502f407c915f3a67a2afbd9a5018ae5", func := "erewhile/erewhilelaw35.CalcheckText", spec := "calcheckText", inPlace := ["internal/abi.NoEscape"], unfollowed := true, recurses := true, named := ["internal/strconv.uint64pow10", "math/bits.deBruijn32tab", "math/bits.deBruijn64tab", "erewhile/caltok.units"], apart := false, laid := [("math/bits.deBruijn32tab", laid_math_bits_deBruijn32tab), ("math/bits.deBruijn64tab", laid_math_bits_deBruijn64tab), ("internal/strconv.uint64pow10", laid_internal_strconv_uint64pow10), ("erewhile/caltok.units", laid_erewhile_caltok_units)] }
def CalcheckTextSaid : Prop := calcheckTextRow.holds Tryd.pinned (OpenSpec.ofChange calcheckTextSpec)

/-- ITS FALSE NEIGHBOUR: 'it returns false'. Refute it at one input. -/
def calcheckTextWrong : ChangeSpec := { name := "calcheckText", fn := fun _ => fun
  | [d1, d2] => { results := [.lit (.bool false)], args := [d1, d2] }
  | _ => none }
def CalcheckTextWrongFalsely : Prop := calcheckTextRow.holds Tryd.pinned (OpenSpec.ofChange calcheckTextWrong)

/- THE SECOND FORM. 'bulk': how many values and letters a reading holds, each counted each time it is reached (what is shared counts as often as it is met; a slice's spare places count too). A statement '..UptoSaid' is the law's where the arguments, and the package variables that the reading takes, are together of bulk at most 1048576: NARROWER than '..Said'. Prove '..Said' where nothing that the law and all that it calls make is longer than what came in: it says more and counts as full. Else prove '..UptoSaid'. A law counts once. -/
mutual
def uptoBulk {H : Type} : DataW H → Nat
  | .lit (.string bytes) => bytes.length + 1
  | .lit _ => 1
  | .nil => 1
  | .ptr d => uptoBulk d + 1
  | .slice elems spare => uptoBulkAll elems + uptoBulkAll spare + 1
  | .agg parts => uptoBulkAll parts + 1
  | .iface _ d => uptoBulk d + 1
  | .map entries => uptoBulkEntries entries + 1
  | .held _ => 1
def uptoBulkAll {H : Type} : List (DataW H) → Nat
  | [] => 0
  | d :: r => uptoBulk d + uptoBulkAll r
def uptoBulkEntries {H : Type} : List (Lit × DataW H) → Nat
  | [] => 0
  | x :: r => uptoBulkEntry x + uptoBulkEntries r
def uptoBulkEntry {H : Type} : Lit × DataW H → Nat
  | (.string bytes, d) => bytes.length + uptoBulk d + 1
  | (_, d) => uptoBulk d + 1
 end
def uptoSmall : (H : Type) → List (DataW H) → Bool := fun _ ds => decide (uptoBulkAll ds ≤ 1048576)
def OpenSpec.upto (s : _root_.Go.ChangeSpec) : _root_.Go.OpenSpec := { _root_.Go.OpenSpec.ofChange s with cond := some uptoSmall }

/-- 'erewhilelaw34.CalruleParses', WHERE WHAT IT READS IS OF BULK AT MOST 1048576: true; the input reads as it did. -/
def calruleParsesUptoRow : OpenClaim := { program := "ythnifjggnjcenaadoor", sum := "210367713244cf02e1aba8666eb513cbc502f407c915f3a67a2afbd9a5018ae5", func := "erewhile/erewhilelaw34.CalruleParses", spec := "calruleParses", unfollowed := true, recurses := true, named := ["erewhile/caltok.units"], apart := false, laid := [("erewhile/caltok.units", laid_erewhile_caltok_units)], narrowed := true }
def CalruleParsesUptoSaid : Prop := calruleParsesUptoRow.holds Tryd.pinned (OpenSpec.upto calruleParsesSpec)

/-- 'erewhilelaw34.CalruleBeside', WHERE WHAT IT READS IS OF BULK AT MOST 1048576: true; the input reads as it did. -/
def calruleBesideUptoRow : OpenClaim := { program := "ythnifjggnjcenaadoor", sum := "210367713244cf02e1aba8666eb513cbc502f407c915f3a67a2afbd9a5018ae5", func := "erewhile/erewhilelaw34.CalruleBeside", spec := "calruleBeside", unfollowed := true, recurses := true, named := ["erewhile/caltok.units"], apart := false, laid := [("erewhile/caltok.units", laid_erewhile_caltok_units)], narrowed := true }
def CalruleBesideUptoSaid : Prop := calruleBesideUptoRow.holds Tryd.pinned (OpenSpec.upto calruleBesideSpec)

/-- 'erewhilelaw34.CalruleTexts', WHERE WHAT IT READS IS OF BULK AT MOST 1048576: true; the input reads as it did. -/
def calruleTextsUptoRow : OpenClaim := { program := "ythnifjggnjcenaadoor", sum := "210367713244cf02e1aba8666eb513cbc502f407c915f3a67a2afbd9a5018ae5", func := "erewhile/erewhilelaw34.CalruleTexts", spec := "calruleTexts", inPlace := ["internal/abi.NoEscape"], unfollowed := true, recurses := true, named := ["erewhile/caltok.units", "internal/strconv.uint64pow10", "math/bits.deBruijn32tab", "math/bits.deBruijn64tab"], apart := false, laid := [("math/bits.deBruijn32tab", laid_math_bits_deBruijn32tab), ("math/bits.deBruijn64tab", laid_math_bits_deBruijn64tab), ("internal/strconv.uint64pow10", laid_internal_strconv_uint64pow10), ("erewhile/caltok.units", laid_erewhile_caltok_units)], narrowed := true }
def CalruleTextsUptoSaid : Prop := calruleTextsUptoRow.holds Tryd.pinned (OpenSpec.upto calruleTextsSpec)

/-- 'erewhilelaw34.CalruleBack', WHERE WHAT IT READS IS OF BULK AT MOST 1048576: true; the input reads as it did. -/
def calruleBackUptoRow : OpenClaim := { program := "ythnifjggnjcenaadoor", sum := "210367713244cf02e1aba8666eb513cbc502f407c915f3a67a2afbd9a5018ae5", func := "erewhile/erewhilelaw34.CalruleBack", spec := "calruleBack", inPlace := ["internal/abi.NoEscape"], unfollowed := true, recurses := true, named := ["erewhile/caltok.units", "internal/strconv.uint64pow10", "math/bits.deBruijn32tab", "math/bits.deBruijn64tab"], apart := false, laid := [("math/bits.deBruijn32tab", laid_math_bits_deBruijn32tab), ("math/bits.deBruijn64tab", laid_math_bits_deBruijn64tab), ("internal/strconv.uint64pow10", laid_internal_strconv_uint64pow10), ("erewhile/caltok.units", laid_erewhile_caltok_units)], narrowed := true }
def CalruleBackUptoSaid : Prop := calruleBackUptoRow.holds Tryd.pinned (OpenSpec.upto calruleBackSpec)

/-- 'erewhilelaw34.CalruleAgain', WHERE WHAT IT READS IS OF BULK AT MOST 1048576: true; the input reads as it did. -/
def calruleAgainUptoRow : OpenClaim := { program := "ythnifjggnjcenaadoor", sum := "210367713244cf02e1aba8666eb513cbc502f407c915f3a67a2afbd9a5018ae5", func := "erewhile/erewhilelaw34.CalruleAgain", spec := "calruleAgain", inPlace := ["internal/abi.NoEscape"], unfollowed := true, recurses := true, named := ["erewhile/caltok.units", "internal/strconv.uint64pow10", "math/bits.deBruijn32tab", "math/bits.deBruijn64tab"], apart := false, laid := [("math/bits.deBruijn32tab", laid_math_bits_deBruijn32tab), ("math/bits.deBruijn64tab", laid_math_bits_deBruijn64tab), ("internal/strconv.uint64pow10", laid_internal_strconv_uint64pow10), ("erewhile/caltok.units", laid_erewhile_caltok_units)], narrowed := true }
def CalruleAgainUptoSaid : Prop := calruleAgainUptoRow.holds Tryd.pinned (OpenSpec.upto calruleAgainSpec)

/-- 'erewhilelaw34.CalruleBlanks', WHERE WHAT IT READS IS OF BULK AT MOST 1048576: true; the input reads as it did. -/
def calruleBlanksUptoRow : OpenClaim := { program := "ythnifjggnjcenaadoor", sum := "210367713244cf02e1aba8666eb513cbc502f407c915f3a67a2afbd9a5018ae5", func := "erewhile/erewhilelaw34.CalruleBlanks", spec := "calruleBlanks", inPlace := ["internal/abi.NoEscape"], unfollowed := true, recurses := true, named := ["erewhile/caltok.units", "internal/strconv.uint64pow10", "math/bits.deBruijn32tab", "math/bits.deBruijn64tab"], apart := false, laid := [("math/bits.deBruijn32tab", laid_math_bits_deBruijn32tab), ("math/bits.deBruijn64tab", laid_math_bits_deBruijn64tab), ("internal/strconv.uint64pow10", laid_internal_strconv_uint64pow10), ("erewhile/caltok.units", laid_erewhile_caltok_units)], narrowed := true }
def CalruleBlanksUptoSaid : Prop := calruleBlanksUptoRow.holds Tryd.pinned (OpenSpec.upto calruleBlanksSpec)

/-- 'erewhilelaw34.CalruleOne', WHERE WHAT IT READS IS OF BULK AT MOST 1048576: true; the input reads as it did. -/
def calruleOneUptoRow : OpenClaim := { program := "ythnifjggnjcenaadoor", sum := "210367713244cf02e1aba8666eb513cbc502f407c915f3a67a2afbd9a5018ae5", func := "erewhile/erewhilelaw34.CalruleOne", spec := "calruleOne", inPlace := ["internal/abi.NoEscape"], unfollowed := true, recurses := true, named := ["erewhile/caltok.units", "internal/strconv.uint64pow10", "math/bits.deBruijn32tab", "math/bits.deBruijn64tab"], apart := false, laid := [("math/bits.deBruijn32tab", laid_math_bits_deBruijn32tab), ("math/bits.deBruijn64tab", laid_math_bits_deBruijn64tab), ("internal/strconv.uint64pow10", laid_internal_strconv_uint64pow10), ("erewhile/caltok.units", laid_erewhile_caltok_units)], narrowed := true }
def CalruleOneUptoSaid : Prop := calruleOneUptoRow.holds Tryd.pinned (OpenSpec.upto calruleOneSpec)

/-- 'erewhilelaw34.CalruleLines', WHERE WHAT IT READS IS OF BULK AT MOST 1048576: true; the input reads as it did. -/
def calruleLinesUptoRow : OpenClaim := { program := "ythnifjggnjcenaadoor", sum := "210367713244cf02e1aba8666eb513cbc502f407c915f3a67a2afbd9a5018ae5", func := "erewhile/erewhilelaw34.CalruleLines", spec := "calruleLines", inPlace := ["internal/abi.NoEscape"], unfollowed := true, recurses := true, named := ["erewhile/caltok.units", "internal/strconv.uint64pow10", "math/bits.deBruijn32tab", "math/bits.deBruijn64tab"], apart := false, laid := [("math/bits.deBruijn32tab", laid_math_bits_deBruijn32tab), ("math/bits.deBruijn64tab", laid_math_bits_deBruijn64tab), ("internal/strconv.uint64pow10", laid_internal_strconv_uint64pow10), ("erewhile/caltok.units", laid_erewhile_caltok_units)], narrowed := true }
def CalruleLinesUptoSaid : Prop := calruleLinesUptoRow.holds Tryd.pinned (OpenSpec.upto calruleLinesSpec)

/-- 'erewhilelaw34.CalruleFronts', WHERE WHAT IT READS IS OF BULK AT MOST 1048576: true; the input reads as it did. -/
def calruleFrontsUptoRow : OpenClaim := { program := "ythnifjggnjcenaadoor", sum := "210367713244cf02e1aba8666eb513cbc502f407c915f3a67a2afbd9a5018ae5", func := "erewhile/erewhilelaw34.CalruleFronts", spec := "calruleFronts", inPlace := ["internal/abi.NoEscape"], unfollowed := true, recurses := true, named := ["erewhile/caltok.units", "internal/strconv.uint64pow10", "math/bits.deBruijn32tab", "math/bits.deBruijn64tab"], apart := false, laid := [("math/bits.deBruijn32tab", laid_math_bits_deBruijn32tab), ("math/bits.deBruijn64tab", laid_math_bits_deBruijn64tab), ("internal/strconv.uint64pow10", laid_internal_strconv_uint64pow10), ("erewhile/caltok.units", laid_erewhile_caltok_units)], narrowed := true }
def CalruleFrontsUptoSaid : Prop := calruleFrontsUptoRow.holds Tryd.pinned (OpenSpec.upto calruleFrontsSpec)

/-- 'erewhilelaw35.CalcheckText', WHERE WHAT IT READS IS OF BULK AT MOST 1048576: true; the input reads as it did. -/
def calcheckTextUptoRow : OpenClaim := { program := "ythnifjggnjcenaadoor", sum := "210367713244cf02e1aba8666eb513cbc502f407c915f3a67a2afbd9a5018ae5", func := "erewhile/erewhilelaw35.CalcheckText", spec := "calcheckText", inPlace := ["internal/abi.NoEscape"], unfollowed := true, recurses := true, named := ["internal/strconv.uint64pow10", "math/bits.deBruijn32tab", "math/bits.deBruijn64tab", "erewhile/caltok.units"], apart := false, laid := [("math/bits.deBruijn32tab", laid_math_bits_deBruijn32tab), ("math/bits.deBruijn64tab", laid_math_bits_deBruijn64tab), ("internal/strconv.uint64pow10", laid_internal_strconv_uint64pow10), ("erewhile/caltok.units", laid_erewhile_caltok_units)], narrowed := true }
def CalcheckTextUptoSaid : Prop := calcheckTextUptoRow.holds Tryd.pinned (OpenSpec.upto calcheckTextSpec)

end Rows
end Go.Proofs.YthnifjggnjcenaaDoor
