/-
  DERIVED. GIVEN WITH THE SEED: THE CARDS: each row of YthnifjggnjcenaaDoorRows.lean that lists a variable, with what it lists TIED to the program's text (the seventh form; the later family's looks); each row that meets fmt, with fmt's text TOLD by the authors' own Lean function (tested against real Go, not proved from fmt's source: count such statements apart). THE CARD IS WHAT COUNTS. Prove the row's statement (the work); the ties are given (YthnifjggnjcenaaDoorTie.lean); close each card by the builder's one call (the guide's Derived/Test/ToyasCard.lean, 'card_holds'). Laid BY PROGRAM, IN A SANDBOX (cutbox-door.mjs). By AI agents, Wed Nov 11 2026. No macro, syntax, notation, axiom, sorry.
-/
import Derived.Test.YthnifjggnjcenaaDoorRows
import GoSem.ClaimSeven
namespace Go.Proofs.YthnifjggnjcenaaDoor
namespace Rows

/-- THE TIED CARD OF 'erewhilelaw34.CalruleParses'. -/
def calruleParsesCard : Claim7 := { stood := { row := calruleParsesRow, standIns := [], harness := (true, "71ab066d31376f8a16a6588a7fea9871c4defa716bf5a40aef5b5a1137f2b072"), looks := false }, kinds := [], alts := [], laidByText := true, laidKinds := [.mapped], laidTests := true, laidLooks := .later }
def CalruleParsesCardSaid : Prop := Claim7.holds Tryd.pinned (.plain (OpenSpec.ofChange calruleParsesSpec)) calruleParsesCard

/-- THE TIED CARD OF 'erewhilelaw34.CalruleBeside'. -/
def calruleBesideCard : Claim7 := { stood := { row := calruleBesideRow, standIns := [], harness := (true, "71ab066d31376f8a16a6588a7fea9871c4defa716bf5a40aef5b5a1137f2b072"), looks := false }, kinds := [], alts := [], laidByText := true, laidKinds := [.mapped], laidTests := true, laidLooks := .later }
def CalruleBesideCardSaid : Prop := Claim7.holds Tryd.pinned (.plain (OpenSpec.ofChange calruleBesideSpec)) calruleBesideCard

/-- THE TIED CARD OF 'erewhilelaw34.CalruleTexts'. -/
def calruleTextsCard : Claim7 := { stood := { row := calruleTextsRow, standIns := [], harness := (true, "71ab066d31376f8a16a6588a7fea9871c4defa716bf5a40aef5b5a1137f2b072"), looks := false }, kinds := [], alts := [], laidByText := true, laidKinds := [.data, .data, .data, .mapped], laidTests := true, laidLooks := .later }
def CalruleTextsCardSaid : Prop := Claim7.holds Tryd.pinned (.plain (OpenSpec.ofChange calruleTextsSpec)) calruleTextsCard

/-- THE TIED CARD OF 'erewhilelaw34.CalruleBack'. -/
def calruleBackCard : Claim7 := { stood := { row := calruleBackRow, standIns := [], harness := (true, "71ab066d31376f8a16a6588a7fea9871c4defa716bf5a40aef5b5a1137f2b072"), looks := false }, kinds := [], alts := [], laidByText := true, laidKinds := [.data, .data, .data, .mapped], laidTests := true, laidLooks := .later }
def CalruleBackCardSaid : Prop := Claim7.holds Tryd.pinned (.plain (OpenSpec.ofChange calruleBackSpec)) calruleBackCard

/-- THE TIED CARD OF 'erewhilelaw34.CalruleAgain'. -/
def calruleAgainCard : Claim7 := { stood := { row := calruleAgainRow, standIns := [], harness := (true, "71ab066d31376f8a16a6588a7fea9871c4defa716bf5a40aef5b5a1137f2b072"), looks := false }, kinds := [], alts := [], laidByText := true, laidKinds := [.data, .data, .data, .mapped], laidTests := true, laidLooks := .later }
def CalruleAgainCardSaid : Prop := Claim7.holds Tryd.pinned (.plain (OpenSpec.ofChange calruleAgainSpec)) calruleAgainCard

/-- THE TIED CARD OF 'erewhilelaw34.CalruleBlanks'. -/
def calruleBlanksCard : Claim7 := { stood := { row := calruleBlanksRow, standIns := [], harness := (true, "71ab066d31376f8a16a6588a7fea9871c4defa716bf5a40aef5b5a1137f2b072"), looks := false }, kinds := [], alts := [], laidByText := true, laidKinds := [.data, .data, .data, .mapped], laidTests := true, laidLooks := .later }
def CalruleBlanksCardSaid : Prop := Claim7.holds Tryd.pinned (.plain (OpenSpec.ofChange calruleBlanksSpec)) calruleBlanksCard

/-- THE TIED CARD OF 'erewhilelaw34.CalruleOne'. -/
def calruleOneCard : Claim7 := { stood := { row := calruleOneRow, standIns := [], harness := (true, "71ab066d31376f8a16a6588a7fea9871c4defa716bf5a40aef5b5a1137f2b072"), looks := false }, kinds := [], alts := [], laidByText := true, laidKinds := [.data, .data, .data, .mapped], laidTests := true, laidLooks := .later }
def CalruleOneCardSaid : Prop := Claim7.holds Tryd.pinned (.plain (OpenSpec.ofChange calruleOneSpec)) calruleOneCard

/-- THE TIED CARD OF 'erewhilelaw34.CalruleLines'. -/
def calruleLinesCard : Claim7 := { stood := { row := calruleLinesRow, standIns := [], harness := (true, "71ab066d31376f8a16a6588a7fea9871c4defa716bf5a40aef5b5a1137f2b072"), looks := false }, kinds := [], alts := [], laidByText := true, laidKinds := [.data, .data, .data, .mapped], laidTests := true, laidLooks := .later }
def CalruleLinesCardSaid : Prop := Claim7.holds Tryd.pinned (.plain (OpenSpec.ofChange calruleLinesSpec)) calruleLinesCard

/-- THE TIED CARD OF 'erewhilelaw34.CalruleFronts'. -/
def calruleFrontsCard : Claim7 := { stood := { row := calruleFrontsRow, standIns := [], harness := (true, "71ab066d31376f8a16a6588a7fea9871c4defa716bf5a40aef5b5a1137f2b072"), looks := false }, kinds := [], alts := [], laidByText := true, laidKinds := [.data, .data, .data, .mapped], laidTests := true, laidLooks := .later }
def CalruleFrontsCardSaid : Prop := Claim7.holds Tryd.pinned (.plain (OpenSpec.ofChange calruleFrontsSpec)) calruleFrontsCard

/-- THE TIED CARD OF 'erewhilelaw35.CalcheckText'. -/
def calcheckTextCard : Claim7 := { stood := { row := calcheckTextRow, standIns := [], harness := (true, "71ab066d31376f8a16a6588a7fea9871c4defa716bf5a40aef5b5a1137f2b072"), looks := false }, kinds := [], alts := [], laidByText := true, laidKinds := [.data, .data, .data, .mapped], laidTests := true, laidLooks := .later }
def CalcheckTextCardSaid : Prop := Claim7.holds Tryd.pinned (.plain (OpenSpec.ofChange calcheckTextSpec)) calcheckTextCard

/-- THE SECOND FORM's CARD OF 'erewhilelaw34.CalruleParses'. -/
def calruleParsesUptoCard : Claim7 := { stood := { row := calruleParsesUptoRow, standIns := [], harness := (true, "71ab066d31376f8a16a6588a7fea9871c4defa716bf5a40aef5b5a1137f2b072"), looks := false }, kinds := [], alts := [], laidByText := true, laidKinds := [.mapped], laidTests := true, laidLooks := .later }
def CalruleParsesUptoCardSaid : Prop := Claim7.holds Tryd.pinned (.plain (OpenSpec.upto calruleParsesSpec)) calruleParsesUptoCard

/-- THE SECOND FORM's CARD OF 'erewhilelaw34.CalruleBeside'. -/
def calruleBesideUptoCard : Claim7 := { stood := { row := calruleBesideUptoRow, standIns := [], harness := (true, "71ab066d31376f8a16a6588a7fea9871c4defa716bf5a40aef5b5a1137f2b072"), looks := false }, kinds := [], alts := [], laidByText := true, laidKinds := [.mapped], laidTests := true, laidLooks := .later }
def CalruleBesideUptoCardSaid : Prop := Claim7.holds Tryd.pinned (.plain (OpenSpec.upto calruleBesideSpec)) calruleBesideUptoCard

/-- THE SECOND FORM's CARD OF 'erewhilelaw34.CalruleTexts'. -/
def calruleTextsUptoCard : Claim7 := { stood := { row := calruleTextsUptoRow, standIns := [], harness := (true, "71ab066d31376f8a16a6588a7fea9871c4defa716bf5a40aef5b5a1137f2b072"), looks := false }, kinds := [], alts := [], laidByText := true, laidKinds := [.data, .data, .data, .mapped], laidTests := true, laidLooks := .later }
def CalruleTextsUptoCardSaid : Prop := Claim7.holds Tryd.pinned (.plain (OpenSpec.upto calruleTextsSpec)) calruleTextsUptoCard

/-- THE SECOND FORM's CARD OF 'erewhilelaw34.CalruleBack'. -/
def calruleBackUptoCard : Claim7 := { stood := { row := calruleBackUptoRow, standIns := [], harness := (true, "71ab066d31376f8a16a6588a7fea9871c4defa716bf5a40aef5b5a1137f2b072"), looks := false }, kinds := [], alts := [], laidByText := true, laidKinds := [.data, .data, .data, .mapped], laidTests := true, laidLooks := .later }
def CalruleBackUptoCardSaid : Prop := Claim7.holds Tryd.pinned (.plain (OpenSpec.upto calruleBackSpec)) calruleBackUptoCard

/-- THE SECOND FORM's CARD OF 'erewhilelaw34.CalruleAgain'. -/
def calruleAgainUptoCard : Claim7 := { stood := { row := calruleAgainUptoRow, standIns := [], harness := (true, "71ab066d31376f8a16a6588a7fea9871c4defa716bf5a40aef5b5a1137f2b072"), looks := false }, kinds := [], alts := [], laidByText := true, laidKinds := [.data, .data, .data, .mapped], laidTests := true, laidLooks := .later }
def CalruleAgainUptoCardSaid : Prop := Claim7.holds Tryd.pinned (.plain (OpenSpec.upto calruleAgainSpec)) calruleAgainUptoCard

/-- THE SECOND FORM's CARD OF 'erewhilelaw34.CalruleBlanks'. -/
def calruleBlanksUptoCard : Claim7 := { stood := { row := calruleBlanksUptoRow, standIns := [], harness := (true, "71ab066d31376f8a16a6588a7fea9871c4defa716bf5a40aef5b5a1137f2b072"), looks := false }, kinds := [], alts := [], laidByText := true, laidKinds := [.data, .data, .data, .mapped], laidTests := true, laidLooks := .later }
def CalruleBlanksUptoCardSaid : Prop := Claim7.holds Tryd.pinned (.plain (OpenSpec.upto calruleBlanksSpec)) calruleBlanksUptoCard

/-- THE SECOND FORM's CARD OF 'erewhilelaw34.CalruleOne'. -/
def calruleOneUptoCard : Claim7 := { stood := { row := calruleOneUptoRow, standIns := [], harness := (true, "71ab066d31376f8a16a6588a7fea9871c4defa716bf5a40aef5b5a1137f2b072"), looks := false }, kinds := [], alts := [], laidByText := true, laidKinds := [.data, .data, .data, .mapped], laidTests := true, laidLooks := .later }
def CalruleOneUptoCardSaid : Prop := Claim7.holds Tryd.pinned (.plain (OpenSpec.upto calruleOneSpec)) calruleOneUptoCard

/-- THE SECOND FORM's CARD OF 'erewhilelaw34.CalruleLines'. -/
def calruleLinesUptoCard : Claim7 := { stood := { row := calruleLinesUptoRow, standIns := [], harness := (true, "71ab066d31376f8a16a6588a7fea9871c4defa716bf5a40aef5b5a1137f2b072"), looks := false }, kinds := [], alts := [], laidByText := true, laidKinds := [.data, .data, .data, .mapped], laidTests := true, laidLooks := .later }
def CalruleLinesUptoCardSaid : Prop := Claim7.holds Tryd.pinned (.plain (OpenSpec.upto calruleLinesSpec)) calruleLinesUptoCard

/-- THE SECOND FORM's CARD OF 'erewhilelaw34.CalruleFronts'. -/
def calruleFrontsUptoCard : Claim7 := { stood := { row := calruleFrontsUptoRow, standIns := [], harness := (true, "71ab066d31376f8a16a6588a7fea9871c4defa716bf5a40aef5b5a1137f2b072"), looks := false }, kinds := [], alts := [], laidByText := true, laidKinds := [.data, .data, .data, .mapped], laidTests := true, laidLooks := .later }
def CalruleFrontsUptoCardSaid : Prop := Claim7.holds Tryd.pinned (.plain (OpenSpec.upto calruleFrontsSpec)) calruleFrontsUptoCard

/-- THE SECOND FORM's CARD OF 'erewhilelaw35.CalcheckText'. -/
def calcheckTextUptoCard : Claim7 := { stood := { row := calcheckTextUptoRow, standIns := [], harness := (true, "71ab066d31376f8a16a6588a7fea9871c4defa716bf5a40aef5b5a1137f2b072"), looks := false }, kinds := [], alts := [], laidByText := true, laidKinds := [.data, .data, .data, .mapped], laidTests := true, laidLooks := .later }
def CalcheckTextUptoCardSaid : Prop := Claim7.holds Tryd.pinned (.plain (OpenSpec.upto calcheckTextSpec)) calcheckTextUptoCard
end Rows
end Go.Proofs.YthnifjggnjcenaaDoor
