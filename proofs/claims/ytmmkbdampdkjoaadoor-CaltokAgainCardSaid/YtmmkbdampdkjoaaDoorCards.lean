/-
  DERIVED. GIVEN WITH THE SEED: THE CARDS: each row of YtmmkbdampdkjoaaDoorRows.lean that lists a variable, with what it lists TIED to the program's text (the seventh form; the later family's looks); each row that meets fmt, with fmt's text TOLD by the authors' own Lean function (tested against real Go, not proved from fmt's source: count such statements apart). THE CARD IS WHAT COUNTS. Prove the row's statement (the work); the ties are given (YtmmkbdampdkjoaaDoorTie.lean); close each card by the builder's one call (the guide's Derived/Test/ToyasCard.lean, 'card_holds'). Laid BY PROGRAM, IN A SANDBOX (cutbox-door.mjs). By AI agents, Wed Nov 11 2026. No macro, syntax, notation, axiom, sorry.
-/
import Derived.Test.YtmmkbdampdkjoaaDoorRows
import GoSem.ClaimSeven
namespace Go.Proofs.YtmmkbdampdkjoaaDoor
namespace Rows

/-- THE TIED CARD OF 'erewhilelaw33.CaltokLexes'. -/
def caltokLexesCard : Claim7 := { stood := { row := caltokLexesRow, standIns := [], harness := (true, "8b976d212e63502349e43b500c3cf8e3e0ee8bd7dd64e2e35b6ad885a92a5d29"), looks := false }, kinds := [], alts := [], laidByText := true, laidKinds := [.mapped], laidTests := true, laidLooks := .later }
def CaltokLexesCardSaid : Prop := Claim7.holds Tryd.pinned (.plain (OpenSpec.ofChange caltokLexesSpec)) caltokLexesCard

/-- THE TIED CARD OF 'erewhilelaw33.CaltokAgain'. -/
def caltokAgainCard : Claim7 := { stood := { row := caltokAgainRow, standIns := [], harness := (true, "8b976d212e63502349e43b500c3cf8e3e0ee8bd7dd64e2e35b6ad885a92a5d29"), looks := false }, kinds := [], alts := [], laidByText := true, laidKinds := [.mapped], laidTests := true, laidLooks := .later }
def CaltokAgainCardSaid : Prop := Claim7.holds Tryd.pinned (.plain (OpenSpec.ofChange caltokAgainSpec)) caltokAgainCard

/-- THE TIED CARD OF 'erewhilelaw33.CaltokBeside'. -/
def caltokBesideCard : Claim7 := { stood := { row := caltokBesideRow, standIns := [], harness := (true, "8b976d212e63502349e43b500c3cf8e3e0ee8bd7dd64e2e35b6ad885a92a5d29"), looks := false }, kinds := [], alts := [], laidByText := true, laidKinds := [.mapped], laidTests := true, laidLooks := .later }
def CaltokBesideCardSaid : Prop := Claim7.holds Tryd.pinned (.plain (OpenSpec.ofChange caltokBesideSpec)) caltokBesideCard

/-- THE TIED CARD OF 'erewhilelaw33.CaltokBack'. -/
def caltokBackCard : Claim7 := { stood := { row := caltokBackRow, standIns := [], harness := (true, "8b976d212e63502349e43b500c3cf8e3e0ee8bd7dd64e2e35b6ad885a92a5d29"), looks := false }, kinds := [], alts := [], laidByText := true, laidKinds := [.data, .data, .data, .mapped], laidTests := true, laidLooks := .later }
def CaltokBackCardSaid : Prop := Claim7.holds Tryd.pinned (.plain (OpenSpec.ofChange caltokBackSpec)) caltokBackCard

/-- THE TIED CARD OF 'erewhilelaw33.CaltokSums'. -/
def caltokSumsCard : Claim7 := { stood := { row := caltokSumsRow, standIns := [], harness := (true, "8b976d212e63502349e43b500c3cf8e3e0ee8bd7dd64e2e35b6ad885a92a5d29"), looks := false }, kinds := [], alts := [], laidByText := true, laidKinds := [.data, .data, .data, .mapped], laidTests := true, laidLooks := .later }
def CaltokSumsCardSaid : Prop := Claim7.holds Tryd.pinned (.plain (OpenSpec.ofChange caltokSumsSpec)) caltokSumsCard

/-- THE TIED CARD OF 'erewhilelaw33.CaltokOne'. -/
def caltokOneCard : Claim7 := { stood := { row := caltokOneRow, standIns := [], harness := (true, "8b976d212e63502349e43b500c3cf8e3e0ee8bd7dd64e2e35b6ad885a92a5d29"), looks := false }, kinds := [], alts := [], laidByText := true, laidKinds := [.data, .data, .data, .mapped], laidTests := true, laidLooks := .later }
def CaltokOneCardSaid : Prop := Claim7.holds Tryd.pinned (.plain (OpenSpec.ofChange caltokOneSpec)) caltokOneCard

/-- THE SECOND FORM's CARD OF 'erewhilelaw33.CaltokLexes'. -/
def caltokLexesUptoCard : Claim7 := { stood := { row := caltokLexesUptoRow, standIns := [], harness := (true, "8b976d212e63502349e43b500c3cf8e3e0ee8bd7dd64e2e35b6ad885a92a5d29"), looks := false }, kinds := [], alts := [], laidByText := true, laidKinds := [.mapped], laidTests := true, laidLooks := .later }
def CaltokLexesUptoCardSaid : Prop := Claim7.holds Tryd.pinned (.plain (OpenSpec.upto caltokLexesSpec)) caltokLexesUptoCard

/-- THE SECOND FORM's CARD OF 'erewhilelaw33.CaltokAgain'. -/
def caltokAgainUptoCard : Claim7 := { stood := { row := caltokAgainUptoRow, standIns := [], harness := (true, "8b976d212e63502349e43b500c3cf8e3e0ee8bd7dd64e2e35b6ad885a92a5d29"), looks := false }, kinds := [], alts := [], laidByText := true, laidKinds := [.mapped], laidTests := true, laidLooks := .later }
def CaltokAgainUptoCardSaid : Prop := Claim7.holds Tryd.pinned (.plain (OpenSpec.upto caltokAgainSpec)) caltokAgainUptoCard

/-- THE SECOND FORM's CARD OF 'erewhilelaw33.CaltokBeside'. -/
def caltokBesideUptoCard : Claim7 := { stood := { row := caltokBesideUptoRow, standIns := [], harness := (true, "8b976d212e63502349e43b500c3cf8e3e0ee8bd7dd64e2e35b6ad885a92a5d29"), looks := false }, kinds := [], alts := [], laidByText := true, laidKinds := [.mapped], laidTests := true, laidLooks := .later }
def CaltokBesideUptoCardSaid : Prop := Claim7.holds Tryd.pinned (.plain (OpenSpec.upto caltokBesideSpec)) caltokBesideUptoCard

/-- THE SECOND FORM's CARD OF 'erewhilelaw33.CaltokBack'. -/
def caltokBackUptoCard : Claim7 := { stood := { row := caltokBackUptoRow, standIns := [], harness := (true, "8b976d212e63502349e43b500c3cf8e3e0ee8bd7dd64e2e35b6ad885a92a5d29"), looks := false }, kinds := [], alts := [], laidByText := true, laidKinds := [.data, .data, .data, .mapped], laidTests := true, laidLooks := .later }
def CaltokBackUptoCardSaid : Prop := Claim7.holds Tryd.pinned (.plain (OpenSpec.upto caltokBackSpec)) caltokBackUptoCard

/-- THE SECOND FORM's CARD OF 'erewhilelaw33.CaltokSums'. -/
def caltokSumsUptoCard : Claim7 := { stood := { row := caltokSumsUptoRow, standIns := [], harness := (true, "8b976d212e63502349e43b500c3cf8e3e0ee8bd7dd64e2e35b6ad885a92a5d29"), looks := false }, kinds := [], alts := [], laidByText := true, laidKinds := [.data, .data, .data, .mapped], laidTests := true, laidLooks := .later }
def CaltokSumsUptoCardSaid : Prop := Claim7.holds Tryd.pinned (.plain (OpenSpec.upto caltokSumsSpec)) caltokSumsUptoCard

/-- THE SECOND FORM's CARD OF 'erewhilelaw33.CaltokOne'. -/
def caltokOneUptoCard : Claim7 := { stood := { row := caltokOneUptoRow, standIns := [], harness := (true, "8b976d212e63502349e43b500c3cf8e3e0ee8bd7dd64e2e35b6ad885a92a5d29"), looks := false }, kinds := [], alts := [], laidByText := true, laidKinds := [.data, .data, .data, .mapped], laidTests := true, laidLooks := .later }
def CaltokOneUptoCardSaid : Prop := Claim7.holds Tryd.pinned (.plain (OpenSpec.upto caltokOneSpec)) caltokOneUptoCard
end Rows
end Go.Proofs.YtmmkbdampdkjoaaDoor
