/-
  DERIVED. GIVEN WITH THE SEED: THE CARDS: each row of YtlcfoelfcnhenaaGreatDoorRows.lean that lists a variable, with what it lists TIED to the program's text (the seventh form; the later family's looks); each row that meets fmt, with fmt's text TOLD by the authors' own Lean function (tested against real Go, not proved from fmt's source: count such statements apart). THE CARD IS WHAT COUNTS. Prove the row's statement (the work); the ties are given (YtlcfoelfcnhenaaGreatDoorTie.lean); close each card by the builder's one call (the guide's Derived/Test/ToyasCard.lean, 'card_holds'). Laid BY PROGRAM, IN A SANDBOX (cutbox-door.mjs). By AI agents, Wed Nov 11 2026. No macro, syntax, notation, axiom, sorry.
-/
import Derived.Test.YtlcfoelfcnhenaaGreatDoorRows
import GoSem.ClaimSeven
namespace Go.Proofs.YtlcfoelfcnhenaaGreatDoor
namespace Rows

/-- THE TIED CARD OF 'estoppeltop.TopAgreedAll'. -/
def topAgreedAllCard : Claim7 := { stood := { row := topAgreedAllRow, standIns := [], harness := (true, "1cf9f01074fbae4d7293ef1fa12b61d970bf591445f77280a1648fcf17aa14d4"), looks := false }, kinds := [], alts := [], laidByText := true, laidKinds := [.data, .data, .data, .data], laidTests := true, laidLooks := .later }
def TopAgreedAllCardSaid : Prop := Claim7.holds Tryz.pinned (.plain (OpenSpec.ofChange topAgreedAllSpec)) topAgreedAllCard

/-- THE SECOND FORM's CARD OF 'estoppeltop.TopAgreedAll'. -/
def topAgreedAllUptoCard : Claim7 := { stood := { row := topAgreedAllUptoRow, standIns := [], harness := (true, "1cf9f01074fbae4d7293ef1fa12b61d970bf591445f77280a1648fcf17aa14d4"), looks := false }, kinds := [], alts := [], laidByText := true, laidKinds := [.data, .data, .data, .data], laidTests := true, laidLooks := .later }
def TopAgreedAllUptoCardSaid : Prop := Claim7.holds Tryz.pinned (.plain (OpenSpec.upto topAgreedAllSpec)) topAgreedAllUptoCard
end Rows
end Go.Proofs.YtlcfoelfcnhenaaGreatDoor
