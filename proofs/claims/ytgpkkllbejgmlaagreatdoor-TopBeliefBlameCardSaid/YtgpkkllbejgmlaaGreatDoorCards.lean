/-
  DERIVED. GIVEN WITH THE SEED: THE CARDS: each row of YtgpkkllbejgmlaaGreatDoorRows.lean that lists a variable, with what it lists TIED to the program's text (the seventh form; the later family's looks); each row that meets fmt, with fmt's text TOLD by the authors' own Lean function (tested against real Go, not proved from fmt's source: count such statements apart). THE CARD IS WHAT COUNTS. Prove the row's statement (the work); the ties are given (YtgpkkllbejgmlaaGreatDoorTie.lean); close each card by the builder's one call (the guide's Derived/Test/ToyasCard.lean, 'card_holds'). Laid BY PROGRAM, IN A SANDBOX (cutbox-door.mjs). By AI agents, Wed Nov 11 2026. No macro, syntax, notation, axiom, sorry.
-/
import Derived.Test.YtgpkkllbejgmlaaGreatDoorRows
import GoSem.ClaimSeven
namespace Go.Proofs.YtgpkkllbejgmlaaGreatDoor
namespace Rows

/-- THE TIED CARD OF 'estoppeltop.TopBeliefBlame'. -/
def topBeliefBlameCard : Claim7 := { stood := { row := topBeliefBlameRow, standIns := [], harness := (true, "99dbb0334e1c9f5a002edd84907413eb6892b29b5d92db362b8dae0abf0a8f63"), looks := false }, kinds := [], alts := [], laidByText := true, laidKinds := [.data, .data, .data], laidTests := true, laidLooks := .later }
def TopBeliefBlameCardSaid : Prop := Claim7.holds Tryz.pinned (.plain (OpenSpec.ofChange topBeliefBlameSpec)) topBeliefBlameCard

/-- THE SECOND FORM's CARD OF 'estoppeltop.TopBeliefBlame'. -/
def topBeliefBlameUptoCard : Claim7 := { stood := { row := topBeliefBlameUptoRow, standIns := [], harness := (true, "99dbb0334e1c9f5a002edd84907413eb6892b29b5d92db362b8dae0abf0a8f63"), looks := false }, kinds := [], alts := [], laidByText := true, laidKinds := [.data, .data, .data], laidTests := true, laidLooks := .later }
def TopBeliefBlameUptoCardSaid : Prop := Claim7.holds Tryz.pinned (.plain (OpenSpec.upto topBeliefBlameSpec)) topBeliefBlameUptoCard
end Rows
end Go.Proofs.YtgpkkllbejgmlaaGreatDoor
