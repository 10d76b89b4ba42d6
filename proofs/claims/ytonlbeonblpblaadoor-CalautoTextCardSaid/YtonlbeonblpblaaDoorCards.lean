/-
  DERIVED. GIVEN WITH THE SEED: THE CARDS: each row of YtonlbeonblpblaaDoorRows.lean that lists a variable, with what it lists TIED to the program's text (the seventh form; the later family's looks); each row that meets fmt, with fmt's text TOLD by the authors' own Lean function (tested against real Go, not proved from fmt's source: count such statements apart). THE CARD IS WHAT COUNTS. Prove the row's statement (the work); the ties are given (YtonlbeonblpblaaDoorTie.lean); close each card by the builder's one call (the guide's Derived/Test/ToyasCard.lean, 'card_holds'). Laid BY PROGRAM, IN A SANDBOX (cutbox-door.mjs). By AI agents, Wed Nov 11 2026. No macro, syntax, notation, axiom, sorry.
-/
import Derived.Test.YtonlbeonblpblaaDoorRows
import GoSem.ClaimSeven
namespace Go.Proofs.YtonlbeonblpblaaDoor
namespace Rows

/-- THE TIED CARD OF 'erewhilelaw36.CalautoText'. -/
def calautoTextCard : Claim7 := { stood := { row := calautoTextRow, standIns := [], harness := (true, "b9e8f42dd8b542bc855f6ddaf6c71c8ad20052456c7c69e1d470578ecf1e7974"), looks := false }, kinds := [], alts := [], laidByText := true, laidKinds := [.data, .data, .data, .mapped], laidTests := true, laidLooks := .later }
def CalautoTextCardSaid : Prop := Claim7.holds Tryd.pinned (.plain (OpenSpec.ofChange calautoTextSpec)) calautoTextCard

/-- THE SECOND FORM's CARD OF 'erewhilelaw36.CalautoText'. -/
def calautoTextUptoCard : Claim7 := { stood := { row := calautoTextUptoRow, standIns := [], harness := (true, "b9e8f42dd8b542bc855f6ddaf6c71c8ad20052456c7c69e1d470578ecf1e7974"), looks := false }, kinds := [], alts := [], laidByText := true, laidKinds := [.data, .data, .data, .mapped], laidTests := true, laidLooks := .later }
def CalautoTextUptoCardSaid : Prop := Claim7.holds Tryd.pinned (.plain (OpenSpec.upto calautoTextSpec)) calautoTextUptoCard
end Rows
end Go.Proofs.YtonlbeonblpblaaDoor
