/-
  DERIVED. GIVEN WITH THE SEED: THE CARDS: each row of YtjgaacpiflmljaaDoorRows.lean that lists a variable, with what it lists TIED to the program's text (the seventh form; the later family's looks); each row that meets fmt, with fmt's text TOLD by the authors' own Lean function (tested against real Go, not proved from fmt's source: count such statements apart). THE CARD IS WHAT COUNTS. Prove the row's statement (the work); the ties are given (YtjgaacpiflmljaaDoorTie.lean); close each card by the builder's one call (the guide's Derived/Test/ToyasCard.lean, 'card_holds'). Laid BY PROGRAM, IN A SANDBOX (cutbox-door.mjs). By AI agents, Wed Nov 11 2026. No macro, syntax, notation, axiom, sorry.
-/
import Derived.Test.YtjgaacpiflmljaaDoorRows
import GoSem.ClaimSeven
namespace Go.Proofs.YtjgaacpiflmljaaDoor
namespace Rows

/-- THE TIED CARD OF 'louverlaw23.LogsOrder'. -/
def logsOrderCard : Claim7 := { stood := { row := logsOrderRow, standIns := [], harness := (true, "5327f5e7d0978b7eed76fa9592c4ea9ef48663ba3d153b2a48af0a5f4eae4ab3"), looks := false }, kinds := [], alts := [], laidByText := true, laidKinds := [.data, .data, .data], laidTests := true, laidLooks := .later }
def LogsOrderCardSaid : Prop := Claim7.holds Tryd.pinned (.plain (OpenSpec.ofChange logsOrderSpec)) logsOrderCard

/-- THE SECOND FORM's CARD OF 'louverlaw23.LogsOrder'. -/
def logsOrderUptoCard : Claim7 := { stood := { row := logsOrderUptoRow, standIns := [], harness := (true, "5327f5e7d0978b7eed76fa9592c4ea9ef48663ba3d153b2a48af0a5f4eae4ab3"), looks := false }, kinds := [], alts := [], laidByText := true, laidKinds := [.data, .data, .data], laidTests := true, laidLooks := .later }
def LogsOrderUptoCardSaid : Prop := Claim7.holds Tryd.pinned (.plain (OpenSpec.upto logsOrderSpec)) logsOrderUptoCard
end Rows
end Go.Proofs.YtjgaacpiflmljaaDoor
