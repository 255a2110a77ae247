/-
  DERIVED. GIVEN WITH THE SEED: THE CARDS: each row of YtdjifjnophcnlaaDoorRows.lean that lists a variable, with what it lists TIED to the program's text (the seventh form; the later family's looks); each row that meets fmt, with fmt's text TOLD by the authors' own Lean function (tested against real Go, not proved from fmt's source: count such statements apart). THE CARD IS WHAT COUNTS. Prove the row's statement (the work); the ties are given (YtdjifjnophcnlaaDoorTie.lean); close each card by the builder's one call (the guide's Derived/Test/ToyasCard.lean, 'card_holds'). Laid BY PROGRAM, IN A SANDBOX (cutbox-door.mjs). By AI agents, Wed Nov 11 2026. No macro, syntax, notation, axiom, sorry.
-/
import Derived.Test.YtdjifjnophcnlaaDoorRows
import GoSem.ClaimSeven
namespace Go.Proofs.YtdjifjnophcnlaaDoor
namespace Rows

/-- THE TIED CARD OF 'clerestorylaw2.VarFills'. -/
def varFillsCard : Claim7 := { stood := { row := varFillsRow, standIns := [], harness := (true, "ac18ab923b88b930de49d88a0f7a7af708144feb0da281778f2eb9cb16086b3e"), looks := false }, kinds := [], alts := [], laidByText := true, laidKinds := [.data, .data, .data, .pinned, .pinned], laidTests := true, laidLooks := .later }
def VarFillsCardSaid : Prop := Claim7.holds Tryd.pinned (.plain (OpenSpec.ofChange varFillsSpec)) varFillsCard

/-- THE SECOND FORM's CARD OF 'clerestorylaw2.VarFills'. -/
def varFillsUptoCard : Claim7 := { stood := { row := varFillsUptoRow, standIns := [], harness := (true, "ac18ab923b88b930de49d88a0f7a7af708144feb0da281778f2eb9cb16086b3e"), looks := false }, kinds := [], alts := [], laidByText := true, laidKinds := [.data, .data, .data, .pinned, .pinned], laidTests := true, laidLooks := .later }
def VarFillsUptoCardSaid : Prop := Claim7.holds Tryd.pinned (.plain (OpenSpec.upto varFillsSpec)) varFillsUptoCard
end Rows
end Go.Proofs.YtdjifjnophcnlaaDoor
