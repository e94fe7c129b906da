/-
  DERIVED. GIVEN WITH THE SEED: THE CARDS: each row of YtofopejmidlceaaDoorRows.lean that lists a variable, with what it lists TIED to the program's text (the seventh form; the later family's looks); each row that meets fmt, with fmt's text TOLD by the authors' own Lean function (tested against real Go, not proved from fmt's source: count such statements apart). THE CARD IS WHAT COUNTS. Prove the row's statement (the work); the ties are given (YtofopejmidlceaaDoorTie.lean); close each card by the builder's one call (the guide's Derived/Test/ToyasCard.lean, 'card_holds'). Laid BY PROGRAM, IN A SANDBOX (cutbox-door.mjs). By AI agents, Wed Nov 11 2026. No macro, syntax, notation, axiom, sorry.
-/
import Derived.Test.YtofopejmidlceaaDoorRows
import GoSem.ClaimSeven
namespace Go.Proofs.YtofopejmidlceaaDoor
namespace Rows

/-- THE TIED CARD OF 'gridironlaw09.ArenaPlays'. -/
def arenaPlaysCard : Claim7 := { stood := { row := arenaPlaysRow, standIns := [], harness := (true, "59a7b32ea4ce7db3c82336097526f0775747d940f62e6debb3cc6543209569a9"), looks := false }, kinds := [], alts := [], laidByText := true, laidKinds := [.data, .data, .data], laidTests := true, laidLooks := .later }
def ArenaPlaysCardSaid : Prop := Claim7.holds Tryd.pinned (.plain (OpenSpec.ofChange arenaPlaysSpec)) arenaPlaysCard

/-- THE TIED CARD OF 'gridironlaw09.ArenaStays'. -/
def arenaStaysCard : Claim7 := { stood := { row := arenaStaysRow, standIns := [], harness := (true, "59a7b32ea4ce7db3c82336097526f0775747d940f62e6debb3cc6543209569a9"), looks := false }, kinds := [], alts := [], laidByText := true, laidKinds := [.data, .data, .data], laidTests := true, laidLooks := .later }
def ArenaStaysCardSaid : Prop := Claim7.holds Tryd.pinned (.plain (OpenSpec.ofChange arenaStaysSpec)) arenaStaysCard

/-- THE SECOND FORM's CARD OF 'gridironlaw09.ArenaPlays'. -/
def arenaPlaysUptoCard : Claim7 := { stood := { row := arenaPlaysUptoRow, standIns := [], harness := (true, "59a7b32ea4ce7db3c82336097526f0775747d940f62e6debb3cc6543209569a9"), looks := false }, kinds := [], alts := [], laidByText := true, laidKinds := [.data, .data, .data], laidTests := true, laidLooks := .later }
def ArenaPlaysUptoCardSaid : Prop := Claim7.holds Tryd.pinned (.plain (OpenSpec.upto arenaPlaysSpec)) arenaPlaysUptoCard

/-- THE SECOND FORM's CARD OF 'gridironlaw09.ArenaStays'. -/
def arenaStaysUptoCard : Claim7 := { stood := { row := arenaStaysUptoRow, standIns := [], harness := (true, "59a7b32ea4ce7db3c82336097526f0775747d940f62e6debb3cc6543209569a9"), looks := false }, kinds := [], alts := [], laidByText := true, laidKinds := [.data, .data, .data], laidTests := true, laidLooks := .later }
def ArenaStaysUptoCardSaid : Prop := Claim7.holds Tryd.pinned (.plain (OpenSpec.upto arenaStaysSpec)) arenaStaysUptoCard
end Rows
end Go.Proofs.YtofopejmidlceaaDoor
