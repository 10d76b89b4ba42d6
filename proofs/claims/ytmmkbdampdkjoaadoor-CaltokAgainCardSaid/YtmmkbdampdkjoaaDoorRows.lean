/-
  NARROWER THAN 'FOR EVERY INPUT', by the rows' own cells (each row's printed sentence says how): CaltokLexes: laid · CaltokAgain: laid · CaltokBeside: laid · CaltokBack: laid · CaltokSums: laid · CaltokOne: laid.
  DERIVED. THE GIVEN ROWS OF THIS SEAT. 6 by the template 'for every input the law returns true; each argument reads behind the call as it read before'; 0 by the template 'total and deterministic' (their statements: YtmmkbdampdkjoaaDoorTotals.lean).
  GIVEN WITH THE SEED: the statements are not yours to turn. If you find one false, say at which input.
  Laid BY PROGRAM, IN A SANDBOX (cutbox-rows.mjs): the forced cells as the released guide's own fill.sh prints them over the translation 740f14732a9af760… (all of the seat's roots in one cut). By AI agents, Wed Nov 11 2026. No macro, syntax, notation, axiom, sorry.
-/
import Derived.Test.YtmmkbdampdkjoaaDoorChecked
import GoSem.Claim
import GoSem.ClaimJoined
import GoSem.ClaimMapViews
import Derived.JoinedTies
import Derived.KernelRfl
namespace Go.Proofs.YtmmkbdampdkjoaaDoor
/- THE CELL 'sum', in the pinned program and in every row, IS THE sha256 OF THE DUMP (.gsa) THAT YtmmkbdampdkjoaaDoorProg.lean LOADS. Nothing in Lean hashes anything: it is a label: what it is worth is what the hold of that sum in a sandbox is worth. -/
noncomputable def Tryd.pinned : Pinned := { name := "ytmmkbdampdkjoaadoor", sum := "740f14732a9af760da2f4e0ced34742e2fb481ed4ec6a9ae2d739a2a81c7285d", checked := Tryd.checked }
namespace Rows
def none {H : Type} : Left H := { results := [], args := [] }

/- WHAT THE LISTED PACKAGE-LEVEL VARIABLES READ AS WHEN THE CALL BEGINS. Each datum BY PROGRAM (the guide's laid-datum.mjs) off the statement by which the dump's own 'gosem.cut.vars' lays the variable. In a bare row this is a premise. The card (YtmmkbdampdkjoaaDoorCards.lean) ties it to the program's text. -/
def laid_erewhile_caltok_units {H : Type} : DataW H := .map [(.int .u8 100, .lit (.int .i64 1440)), (.int .u8 104, .lit (.int .i64 60)), (.int .u8 109, .lit (.int .i64 1))]
def laid_math_bits_deBruijn32tab {H : Type} : DataW H := .agg [.lit (.int .u8 0), .lit (.int .u8 1), .lit (.int .u8 28), .lit (.int .u8 2), .lit (.int .u8 29), .lit (.int .u8 14), .lit (.int .u8 24), .lit (.int .u8 3), .lit (.int .u8 30), .lit (.int .u8 22), .lit (.int .u8 20), .lit (.int .u8 15), .lit (.int .u8 25), .lit (.int .u8 17), .lit (.int .u8 4), .lit (.int .u8 8), .lit (.int .u8 31), .lit (.int .u8 27), .lit (.int .u8 13), .lit (.int .u8 23), .lit (.int .u8 21), .lit (.int .u8 19), .lit (.int .u8 16), .lit (.int .u8 7), .lit (.int .u8 26), .lit (.int .u8 12), .lit (.int .u8 18), .lit (.int .u8 6), .lit (.int .u8 11), .lit (.int .u8 5), .lit (.int .u8 10), .lit (.int .u8 9)]
def laid_math_bits_deBruijn64tab {H : Type} : DataW H := .agg [.lit (.int .u8 0), .lit (.int .u8 1), .lit (.int .u8 56), .lit (.int .u8 2), .lit (.int .u8 57), .lit (.int .u8 49), .lit (.int .u8 28), .lit (.int .u8 3), .lit (.int .u8 61), .lit (.int .u8 58), .lit (.int .u8 42), .lit (.int .u8 50), .lit (.int .u8 38), .lit (.int .u8 29), .lit (.int .u8 17), .lit (.int .u8 4), .lit (.int .u8 62), .lit (.int .u8 47), .lit (.int .u8 59), .lit (.int .u8 36), .lit (.int .u8 45), .lit (.int .u8 43), .lit (.int .u8 51), .lit (.int .u8 22), .lit (.int .u8 53), .lit (.int .u8 39), .lit (.int .u8 33), .lit (.int .u8 30), .lit (.int .u8 24), .lit (.int .u8 18), .lit (.int .u8 12), .lit (.int .u8 5), .lit (.int .u8 63), .lit (.int .u8 55), .lit (.int .u8 48), .lit (.int .u8 27), .lit (.int .u8 60), .lit (.int .u8 41), .lit (.int .u8 37), .lit (.int .u8 16), .lit (.int .u8 46), .lit (.int .u8 35), .lit (.int .u8 44), .lit (.int .u8 21), .lit (.int .u8 52), .lit (.int .u8 32), .lit (.int .u8 23), .lit (.int .u8 11), .lit (.int .u8 54), .lit (.int .u8 26), .lit (.int .u8 40), .lit (.int .u8 15), .lit (.int .u8 34), .lit (.int .u8 20), .lit (.int .u8 31), .lit (.int .u8 10), .lit (.int .u8 25), .lit (.int .u8 14), .lit (.int .u8 19), .lit (.int .u8 9), .lit (.int .u8 13), .lit (.int .u8 8), .lit (.int .u8 7), .lit (.int .u8 6)]
def laid_internal_strconv_uint64pow10 {H : Type} : DataW H := .agg [.lit (.int .u64 1), .lit (.int .u64 10), .lit (.int .u64 100), .lit (.int .u64 1000), .lit (.int .u64 10000), .lit (.int .u64 100000), .lit (.int .u64 1000000), .lit (.int .u64 10000000), .lit (.int .u64 100000000), .lit (.int .u64 1000000000), .lit (.int .u64 10000000000), .lit (.int .u64 100000000000), .lit (.int .u64 1000000000000), .lit (.int .u64 10000000000000), .lit (.int .u64 100000000000000), .lit (.int .u64 1000000000000000), .lit (.int .u64 10000000000000000), .lit (.int .u64 100000000000000000), .lit (.int .u64 1000000000000000000), .lit (.int .u64 10000000000000000000)]

/-- 'erewhilelaw33.CaltokLexes': WHATEVER THE INPUT: true; the input reads as it did. -/
def caltokLexesSpec : ChangeSpec := { name := "caltokLexes", fn := fun _ => fun
  | [d] => { results := [.lit (.bool true)], args := [d] }
  | _ => none }
def caltokLexesRow : OpenClaim := { program := "ytmmkbdampdkjoaadoor", sum := "740f14732a9af760da2f4e0ced34742e2fb481ed4ec6a9ae2d739a2a81c7285d", func := "erewhile/erewhilelaw33.CaltokLexes", spec := "caltokLexes", unfollowed := true, recurses := true, named := ["erewhile/caltok.units"], apart := false, laid := [("erewhile/caltok.units", laid_erewhile_caltok_units)] }
def CaltokLexesSaid : Prop := caltokLexesRow.holds Tryd.pinned (OpenSpec.ofChange caltokLexesSpec)

/-- ITS FALSE NEIGHBOUR: 'it returns false'. Refute it at one input. -/
def caltokLexesWrong : ChangeSpec := { name := "caltokLexes", fn := fun _ => fun
  | [d] => { results := [.lit (.bool false)], args := [d] }
  | _ => none }
def CaltokLexesWrongFalsely : Prop := caltokLexesRow.holds Tryd.pinned (OpenSpec.ofChange caltokLexesWrong)

/-- 'erewhilelaw33.CaltokAgain': WHATEVER THE INPUT: true; the input reads as it did. -/
def caltokAgainSpec : ChangeSpec := { name := "caltokAgain", fn := fun _ => fun
  | [d] => { results := [.lit (.bool true)], args := [d] }
  | _ => none }
def caltokAgainRow : OpenClaim := { program := "ytmmkbdampdkjoaadoor", sum := "740f14732a9af760da2f4e0ced34742e2fb481ed4ec6a9ae2d739a2a81c7285d", func := "erewhile/erewhilelaw33.CaltokAgain", spec := "caltokAgain", unfollowed := true, recurses := true, named := ["erewhile/caltok.units"], apart := false, laid := [("erewhile/caltok.units", laid_erewhile_caltok_units)] }
def CaltokAgainSaid : Prop := caltokAgainRow.holds Tryd.pinned (OpenSpec.ofChange caltokAgainSpec)

/-- ITS FALSE NEIGHBOUR: 'it returns false'. Refute it at one input. -/
def caltokAgainWrong : ChangeSpec := { name := "caltokAgain", fn := fun _ => fun
  | [d] => { results := [.lit (.bool false)], args := [d] }
  | _ => none }
def CaltokAgainWrongFalsely : Prop := caltokAgainRow.holds Tryd.pinned (OpenSpec.ofChange caltokAgainWrong)

/-- 'erewhilelaw33.CaltokBeside': WHATEVER THE INPUT: true; the input reads as it did. -/
def caltokBesideSpec : ChangeSpec := { name := "caltokBeside", fn := fun _ => fun
  | [d1, d2] => { results := [.lit (.bool true)], args := [d1, d2] }
  | _ => none }
def caltokBesideRow : OpenClaim := { program := "ytmmkbdampdkjoaadoor", sum := "740f14732a9af760da2f4e0ced34742e2fb481ed4ec6a9ae2d739a2a81c7285d", func := "erewhile/erewhilelaw33.CaltokBeside", spec := "caltokBeside", unfollowed := true, recurses := true, named := ["erewhile/caltok.units"], apart := false, laid := [("erewhile/caltok.units", laid_erewhile_caltok_units)] }
def CaltokBesideSaid : Prop := caltokBesideRow.holds Tryd.pinned (OpenSpec.ofChange caltokBesideSpec)

/-- ITS FALSE NEIGHBOUR: 'it returns false'. Refute it at one input. -/
def caltokBesideWrong : ChangeSpec := { name := "caltokBeside", fn := fun _ => fun
  | [d1, d2] => { results := [.lit (.bool false)], args := [d1, d2] }
  | _ => none }
def CaltokBesideWrongFalsely : Prop := caltokBesideRow.holds Tryd.pinned (OpenSpec.ofChange caltokBesideWrong)

/-- 'erewhilelaw33.CaltokBack': WHATEVER THE INPUT: true; the input reads as it did. -/
def caltokBackSpec : ChangeSpec := { name := "caltokBack", fn := fun _ => fun
  | [d1, d2, d3] => { results := [.lit (.bool true)], args := [d1, d2, d3] }
  | _ => none }
def caltokBackRow : OpenClaim := { program := "ytmmkbdampdkjoaadoor", sum := "740f14732a9af760da2f4e0ced34742e2fb481ed4ec6a9ae2d739a2a81c7285d", func := "erewhile/erewhilelaw33.CaltokBack", spec := "caltokBack", unfollowed := true, recurses := true, named := ["erewhile/caltok.units", "internal/strconv.uint64pow10", "math/bits.deBruijn32tab", "math/bits.deBruijn64tab"], apart := false, laid := [("math/bits.deBruijn32tab", laid_math_bits_deBruijn32tab), ("math/bits.deBruijn64tab", laid_math_bits_deBruijn64tab), ("internal/strconv.uint64pow10", laid_internal_strconv_uint64pow10), ("erewhile/caltok.units", laid_erewhile_caltok_units)] }
def CaltokBackSaid : Prop := caltokBackRow.holds Tryd.pinned (OpenSpec.ofChange caltokBackSpec)

/-- ITS FALSE NEIGHBOUR: 'it returns false'. Refute it at one input. -/
def caltokBackWrong : ChangeSpec := { name := "caltokBack", fn := fun _ => fun
  | [d1, d2, d3] => { results := [.lit (.bool false)], args := [d1, d2, d3] }
  | _ => none }
def CaltokBackWrongFalsely : Prop := caltokBackRow.holds Tryd.pinned (OpenSpec.ofChange caltokBackWrong)

/-- 'erewhilelaw33.CaltokSums': WHATEVER THE INPUT: true; the input reads as it did. -/
def caltokSumsSpec : ChangeSpec := { name := "caltokSums", fn := fun _ => fun
  | [d1, d2] => { results := [.lit (.bool true)], args := [d1, d2] }
  | _ => none }
def caltokSumsRow : OpenClaim := { program := "ytmmkbdampdkjoaadoor", sum := "740f14732a9af760da2f4e0ced34742e2fb481ed4ec6a9ae2d739a2a81c7285d", func := "erewhile/erewhilelaw33.CaltokSums", spec := "caltokSums", unfollowed := true, recurses := true, named := ["erewhile/caltok.units", "internal/strconv.uint64pow10", "math/bits.deBruijn32tab", "math/bits.deBruijn64tab"], apart := false, laid := [("math/bits.deBruijn32tab", laid_math_bits_deBruijn32tab), ("math/bits.deBruijn64tab", laid_math_bits_deBruijn64tab), ("internal/strconv.uint64pow10", laid_internal_strconv_uint64pow10), ("erewhile/caltok.units", laid_erewhile_caltok_units)] }
def CaltokSumsSaid : Prop := caltokSumsRow.holds Tryd.pinned (OpenSpec.ofChange caltokSumsSpec)

/-- ITS FALSE NEIGHBOUR: 'it returns false'. Refute it at one input. -/
def caltokSumsWrong : ChangeSpec := { name := "caltokSums", fn := fun _ => fun
  | [d1, d2] => { results := [.lit (.bool false)], args := [d1, d2] }
  | _ => none }
def CaltokSumsWrongFalsely : Prop := caltokSumsRow.holds Tryd.pinned (OpenSpec.ofChange caltokSumsWrong)

/-- 'erewhilelaw33.CaltokOne': WHATEVER THE INPUT: true; the input reads as it did. -/
def caltokOneSpec : ChangeSpec := { name := "caltokOne", fn := fun _ => fun
  | [d1, d2, d3] => { results := [.lit (.bool true)], args := [d1, d2, d3] }
  | _ => none }
def caltokOneRow : OpenClaim := { program := "ytmmkbdampdkjoaadoor", sum := "740f14732a9af760da2f4e0ced34742e2fb481ed4ec6a9ae2d739a2a81c7285d", func := "erewhile/erewhilelaw33.CaltokOne", spec := "caltokOne", unfollowed := true, recurses := true, named := ["erewhile/caltok.units", "internal/strconv.uint64pow10", "math/bits.deBruijn32tab", "math/bits.deBruijn64tab"], apart := false, laid := [("math/bits.deBruijn32tab", laid_math_bits_deBruijn32tab), ("math/bits.deBruijn64tab", laid_math_bits_deBruijn64tab), ("internal/strconv.uint64pow10", laid_internal_strconv_uint64pow10), ("erewhile/caltok.units", laid_erewhile_caltok_units)] }
def CaltokOneSaid : Prop := caltokOneRow.holds Tryd.pinned (OpenSpec.ofChange caltokOneSpec)

/-- ITS FALSE NEIGHBOUR: 'it returns false'. Refute it at one input. -/
def caltokOneWrong : ChangeSpec := { name := "caltokOne", fn := fun _ => fun
  | [d1, d2, d3] => { results := [.lit (.bool false)], args := [d1, d2, d3] }
  | _ => none }
def CaltokOneWrongFalsely : Prop := caltokOneRow.holds Tryd.pinned (OpenSpec.ofChange caltokOneWrong)

/- THE SECOND FORM. 'bulk': how many values and letters a reading holds, each counted each time it is reached (what is shared counts as often as it is met; a slice's spare places count too). A statement '..UptoSaid' is the law's where the arguments, and the package variables that the reading takes, are together of bulk at most 1048576: NARROWER than '..Said'. Prove '..Said' where nothing that the law and all that it calls make is longer than what came in: it says more and counts as full. Else prove '..UptoSaid'. A law counts once. -/
mutual
def uptoBulk {H : Type} : DataW H → Nat
  | .lit (.string bytes) => bytes.length + 1
  | .lit _ => 1
  | .nil => 1
  | .ptr d => uptoBulk d + 1
  | .slice elems spare => uptoBulkAll elems + uptoBulkAll spare + 1
  | .agg parts => uptoBulkAll parts + 1
  | .iface _ d => uptoBulk d + 1
  | .map entries => uptoBulkEntries entries + 1
  | .held _ => 1
def uptoBulkAll {H : Type} : List (DataW H) → Nat
  | [] => 0
  | d :: r => uptoBulk d + uptoBulkAll r
def uptoBulkEntries {H : Type} : List (Lit × DataW H) → Nat
  | [] => 0
  | x :: r => uptoBulkEntry x + uptoBulkEntries r
def uptoBulkEntry {H : Type} : Lit × DataW H → Nat
  | (.string bytes, d) => bytes.length + uptoBulk d + 1
  | (_, d) => uptoBulk d + 1
 end
def uptoSmall : (H : Type) → List (DataW H) → Bool := fun _ ds => decide (uptoBulkAll ds ≤ 1048576)
def OpenSpec.upto (s : _root_.Go.ChangeSpec) : _root_.Go.OpenSpec := { _root_.Go.OpenSpec.ofChange s with cond := some uptoSmall }

/-- 'erewhilelaw33.CaltokLexes', WHERE WHAT IT READS IS OF BULK AT MOST 1048576: true; the input reads as it did. -/
def caltokLexesUptoRow : OpenClaim := { program := "ytmmkbdampdkjoaadoor", sum := "740f14732a9af760da2f4e0ced34742e2fb481ed4ec6a9ae2d739a2a81c7285d", func := "erewhile/erewhilelaw33.CaltokLexes", spec := "caltokLexes", unfollowed := true, recurses := true, named := ["erewhile/caltok.units"], apart := false, laid := [("erewhile/caltok.units", laid_erewhile_caltok_units)], narrowed := true }
def CaltokLexesUptoSaid : Prop := caltokLexesUptoRow.holds Tryd.pinned (OpenSpec.upto caltokLexesSpec)

/-- 'erewhilelaw33.CaltokAgain', WHERE WHAT IT READS IS OF BULK AT MOST 1048576: true; the input reads as it did. -/
def caltokAgainUptoRow : OpenClaim := { program := "ytmmkbdampdkjoaadoor", sum := "740f14732a9af760da2f4e0ced34742e2fb481ed4ec6a9ae2d739a2a81c7285d", func := "erewhile/erewhilelaw33.CaltokAgain", spec := "caltokAgain", unfollowed := true, recurses := true, named := ["erewhile/caltok.units"], apart := false, laid := [("erewhile/caltok.units", laid_erewhile_caltok_units)], narrowed := true }
def CaltokAgainUptoSaid : Prop := caltokAgainUptoRow.holds Tryd.pinned (OpenSpec.upto caltokAgainSpec)

/-- 'erewhilelaw33.CaltokBeside', WHERE WHAT IT READS IS OF BULK AT MOST 1048576: true; the input reads as it did. -/
def caltokBesideUptoRow : OpenClaim := { program := "ytmmkbdampdkjoaadoor", sum := "740f14732a9af760da2f4e0ced34742e2fb481ed4ec6a9ae2d739a2a81c7285d", func := "erewhile/erewhilelaw33.CaltokBeside", spec := "caltokBeside", unfollowed := true, recurses := true, named := ["erewhile/caltok.units"], apart := false, laid := [("erewhile/caltok.units", laid_erewhile_caltok_units)], narrowed := true }
def CaltokBesideUptoSaid : Prop := caltokBesideUptoRow.holds Tryd.pinned (OpenSpec.upto caltokBesideSpec)

/-- 'erewhilelaw33.CaltokBack', WHERE WHAT IT READS IS OF BULK AT MOST 1048576: true; the input reads as it did. -/
def caltokBackUptoRow : OpenClaim := { program := "ytmmkbdampdkjoaadoor", sum := "740f14732a9af760da2f4e0ced34742e2fb481ed4ec6a9ae2d739a2a81c7285d", func := "erewhile/erewhilelaw33.CaltokBack", spec := "caltokBack", unfollowed := true, recurses := true, named := ["erewhile/caltok.units", "internal/strconv.uint64pow10", "math/bits.deBruijn32tab", "math/bits.deBruijn64tab"], apart := false, laid := [("math/bits.deBruijn32tab", laid_math_bits_deBruijn32tab), ("math/bits.deBruijn64tab", laid_math_bits_deBruijn64tab), ("internal/strconv.uint64pow10", laid_internal_strconv_uint64pow10), ("erewhile/caltok.units", laid_erewhile_caltok_units)], narrowed := true }
def CaltokBackUptoSaid : Prop := caltokBackUptoRow.holds Tryd.pinned (OpenSpec.upto caltokBackSpec)

/-- 'erewhilelaw33.CaltokSums', WHERE WHAT IT READS IS OF BULK AT MOST 1048576: true; the input reads as it did. -/
def caltokSumsUptoRow : OpenClaim := { program := "ytmmkbdampdkjoaadoor", sum := "740f14732a9af760da2f4e0ced34742e2fb481ed4ec6a9ae2d739a2a81c7285d", func := "erewhile/erewhilelaw33.CaltokSums", spec := "caltokSums", unfollowed := true, recurses := true, named := ["erewhile/caltok.units", "internal/strconv.uint64pow10", "math/bits.deBruijn32tab", "math/bits.deBruijn64tab"], apart := false, laid := [("math/bits.deBruijn32tab", laid_math_bits_deBruijn32tab), ("math/bits.deBruijn64tab", laid_math_bits_deBruijn64tab), ("internal/strconv.uint64pow10", laid_internal_strconv_uint64pow10), ("erewhile/caltok.units", laid_erewhile_caltok_units)], narrowed := true }
def CaltokSumsUptoSaid : Prop := caltokSumsUptoRow.holds Tryd.pinned (OpenSpec.upto caltokSumsSpec)

/-- 'erewhilelaw33.CaltokOne', WHERE WHAT IT READS IS OF BULK AT MOST 1048576: true; the input reads as it did. -/
def caltokOneUptoRow : OpenClaim := { program := "ytmmkbdampdkjoaadoor", sum := "740f14732a9af760da2f4e0ced34742e2fb481ed4ec6a9ae2d739a2a81c7285d", func := "erewhile/erewhilelaw33.CaltokOne", spec := "caltokOne", unfollowed := true, recurses := true, named := ["erewhile/caltok.units", "internal/strconv.uint64pow10", "math/bits.deBruijn32tab", "math/bits.deBruijn64tab"], apart := false, laid := [("math/bits.deBruijn32tab", laid_math_bits_deBruijn32tab), ("math/bits.deBruijn64tab", laid_math_bits_deBruijn64tab), ("internal/strconv.uint64pow10", laid_internal_strconv_uint64pow10), ("erewhile/caltok.units", laid_erewhile_caltok_units)], narrowed := true }
def CaltokOneUptoSaid : Prop := caltokOneUptoRow.holds Tryd.pinned (OpenSpec.upto caltokOneSpec)

end Rows
end Go.Proofs.YtmmkbdampdkjoaaDoor
