/-
  No cell of these rows narrows 'for every input' (looked for: loops, veiled, ifaces, maps, wideKeys, modest, calm, conditions, laid).
  DERIVED. THE GIVEN ROWS OF THIS SEAT. 12 by the template 'for every input the law returns true; each argument reads behind the call as it read before'; 0 by the template 'total and deterministic' (their statements: YtiiegpjpckkohaaTotals.lean).
  GIVEN WITH THE SEED: the statements are not yours to turn. If you find one false, say at which input.
  Laid BY PROGRAM, IN A SANDBOX (cutbox-rows.mjs): the forced cells as the released guide's own fill.sh prints them over the translation 1015003274329125… (all of the seat's roots in one cut). By AI agents, Wed Nov 11 2026. No macro, syntax, notation, axiom, sorry.
-/
import Derived.Test.YtiiegpjpckkohaaChecked
import GoSem.Claim
import GoSem.ClaimJoined
import GoSem.ClaimMapViews
import Derived.JoinedTies
import Derived.KernelRfl
namespace Go.Proofs.Ytiiegpjpckkohaa
/- THE CELL 'sum', in the pinned program and in every row, IS THE sha256 OF THE DUMP (.gsa) THAT YtiiegpjpckkohaaProg.lean LOADS. Nothing in Lean hashes anything: it is a label: what it is worth is what the hold of that sum in a sandbox is worth. -/
noncomputable def Try.pinned : Pinned := { name := "ytiiegpjpckkohaa", sum := "1015003274329125d3c19fc4e743cd6a1d487943178d2ca6cfeea228eb930034", checked := Try.checked }
namespace Rows
def none {H : Type} : Left H := { results := [], args := [] }

/-- 'estoppeltop.TopNetted': WHATEVER THE INPUT: true; the input reads as it did. -/
def topNettedSpec : ChangeSpec := { name := "topNetted", fn := fun _ => fun
  | [d1, d2, d3, d4] => { results := [.lit (.bool true)], args := [d1, d2, d3, d4] }
  | _ => none }
def topNettedRow : OpenClaim := { program := "ytiiegpjpckkohaa", sum := "1015003274329125d3c19fc4e743cd6a1d487943178d2ca6cfeea228eb930034", func := "estoppel/estoppeltop.TopNetted", spec := "topNetted", unfollowed := true, recurses := true, apart := false }
def TopNettedSaid : Prop := topNettedRow.holds Try.pinned (OpenSpec.ofChange topNettedSpec)

/-- ITS FALSE NEIGHBOUR: 'it returns false'. Refute it at one input. -/
def topNettedWrong : ChangeSpec := { name := "topNetted", fn := fun _ => fun
  | [d1, d2, d3, d4] => { results := [.lit (.bool false)], args := [d1, d2, d3, d4] }
  | _ => none }
def TopNettedWrongFalsely : Prop := topNettedRow.holds Try.pinned (OpenSpec.ofChange topNettedWrong)

/-- 'estoppeltop.TopUnits': WHATEVER THE INPUT: true; the input reads as it did. -/
def topUnitsSpec : ChangeSpec := { name := "topUnits", fn := fun _ => fun
  | [d1, d2, d3, d4, d5, d6, d7] => { results := [.lit (.bool true)], args := [d1, d2, d3, d4, d5, d6, d7] }
  | _ => none }
def topUnitsRow : OpenClaim := { program := "ytiiegpjpckkohaa", sum := "1015003274329125d3c19fc4e743cd6a1d487943178d2ca6cfeea228eb930034", func := "estoppel/estoppeltop.TopUnits", spec := "topUnits", unfollowed := true, recurses := true, apart := false }
def TopUnitsSaid : Prop := topUnitsRow.holds Try.pinned (OpenSpec.ofChange topUnitsSpec)

/-- ITS FALSE NEIGHBOUR: 'it returns false'. Refute it at one input. -/
def topUnitsWrong : ChangeSpec := { name := "topUnits", fn := fun _ => fun
  | [d1, d2, d3, d4, d5, d6, d7] => { results := [.lit (.bool false)], args := [d1, d2, d3, d4, d5, d6, d7] }
  | _ => none }
def TopUnitsWrongFalsely : Prop := topUnitsRow.holds Try.pinned (OpenSpec.ofChange topUnitsWrong)

/-- 'estoppellaw17.TallyConserves': WHATEVER THE INPUT: true; the input reads as it did. -/
def tallyConservesSpec : ChangeSpec := { name := "tallyConserves", fn := fun _ => fun
  | [d1, d2] => { results := [.lit (.bool true)], args := [d1, d2] }
  | _ => none }
def tallyConservesRow : OpenClaim := { program := "ytiiegpjpckkohaa", sum := "1015003274329125d3c19fc4e743cd6a1d487943178d2ca6cfeea228eb930034", func := "estoppel/estoppellaw17.TallyConserves", spec := "tallyConserves", unfollowed := true, recurses := true, apart := false }
def TallyConservesSaid : Prop := tallyConservesRow.holds Try.pinned (OpenSpec.ofChange tallyConservesSpec)

/-- ITS FALSE NEIGHBOUR: 'it returns false'. Refute it at one input. -/
def tallyConservesWrong : ChangeSpec := { name := "tallyConserves", fn := fun _ => fun
  | [d1, d2] => { results := [.lit (.bool false)], args := [d1, d2] }
  | _ => none }
def TallyConservesWrongFalsely : Prop := tallyConservesRow.holds Try.pinned (OpenSpec.ofChange tallyConservesWrong)

/-- 'estoppellaw17.TallySteps': WHATEVER THE INPUT: true; the input reads as it did. -/
def tallyStepsSpec : ChangeSpec := { name := "tallySteps", fn := fun _ => fun
  | [d1, d2, d3] => { results := [.lit (.bool true)], args := [d1, d2, d3] }
  | _ => none }
def tallyStepsRow : OpenClaim := { program := "ytiiegpjpckkohaa", sum := "1015003274329125d3c19fc4e743cd6a1d487943178d2ca6cfeea228eb930034", func := "estoppel/estoppellaw17.TallySteps", spec := "tallySteps", unfollowed := true, recurses := true, apart := false }
def TallyStepsSaid : Prop := tallyStepsRow.holds Try.pinned (OpenSpec.ofChange tallyStepsSpec)

/-- ITS FALSE NEIGHBOUR: 'it returns false'. Refute it at one input. -/
def tallyStepsWrong : ChangeSpec := { name := "tallySteps", fn := fun _ => fun
  | [d1, d2, d3] => { results := [.lit (.bool false)], args := [d1, d2, d3] }
  | _ => none }
def TallyStepsWrongFalsely : Prop := tallyStepsRow.holds Try.pinned (OpenSpec.ofChange tallyStepsWrong)

/-- 'estoppellaw17.TallyClauses': WHATEVER THE INPUT: true; the input reads as it did. -/
def tallyClausesSpec : ChangeSpec := { name := "tallyClauses", fn := fun _ => fun
  | [d1, d2, d3] => { results := [.lit (.bool true)], args := [d1, d2, d3] }
  | _ => none }
def tallyClausesRow : OpenClaim := { program := "ytiiegpjpckkohaa", sum := "1015003274329125d3c19fc4e743cd6a1d487943178d2ca6cfeea228eb930034", func := "estoppel/estoppellaw17.TallyClauses", spec := "tallyClauses", unfollowed := true, recurses := true, apart := false }
def TallyClausesSaid : Prop := tallyClausesRow.holds Try.pinned (OpenSpec.ofChange tallyClausesSpec)

/-- ITS FALSE NEIGHBOUR: 'it returns false'. Refute it at one input. -/
def tallyClausesWrong : ChangeSpec := { name := "tallyClauses", fn := fun _ => fun
  | [d1, d2, d3] => { results := [.lit (.bool false)], args := [d1, d2, d3] }
  | _ => none }
def TallyClausesWrongFalsely : Prop := tallyClausesRow.holds Try.pinned (OpenSpec.ofChange tallyClausesWrong)

/-- 'estoppellaw17.TallySetOff': WHATEVER THE INPUT: true; the input reads as it did. -/
def tallySetOffSpec : ChangeSpec := { name := "tallySetOff", fn := fun _ => fun
  | [d1, d2, d3, d4, d5, d6] => { results := [.lit (.bool true)], args := [d1, d2, d3, d4, d5, d6] }
  | _ => none }
def tallySetOffRow : OpenClaim := { program := "ytiiegpjpckkohaa", sum := "1015003274329125d3c19fc4e743cd6a1d487943178d2ca6cfeea228eb930034", func := "estoppel/estoppellaw17.TallySetOff", spec := "tallySetOff", unfollowed := true, recurses := true, apart := false }
def TallySetOffSaid : Prop := tallySetOffRow.holds Try.pinned (OpenSpec.ofChange tallySetOffSpec)

/-- ITS FALSE NEIGHBOUR: 'it returns false'. Refute it at one input. -/
def tallySetOffWrong : ChangeSpec := { name := "tallySetOff", fn := fun _ => fun
  | [d1, d2, d3, d4, d5, d6] => { results := [.lit (.bool false)], args := [d1, d2, d3, d4, d5, d6] }
  | _ => none }
def TallySetOffWrongFalsely : Prop := tallySetOffRow.holds Try.pinned (OpenSpec.ofChange tallySetOffWrong)

/-- 'estoppellaw41.RemedyInterest': WHATEVER THE INPUT: true; the input reads as it did. -/
def remedyInterestSpec : ChangeSpec := { name := "remedyInterest", fn := fun _ => fun
  | [d1, d2, d3, d4, d5] => { results := [.lit (.bool true)], args := [d1, d2, d3, d4, d5] }
  | _ => none }
def remedyInterestRow : OpenClaim := { program := "ytiiegpjpckkohaa", sum := "1015003274329125d3c19fc4e743cd6a1d487943178d2ca6cfeea228eb930034", func := "estoppel/estoppellaw41.RemedyInterest", spec := "remedyInterest", unfollowed := true, recurses := true, apart := false }
def RemedyInterestSaid : Prop := remedyInterestRow.holds Try.pinned (OpenSpec.ofChange remedyInterestSpec)

/-- ITS FALSE NEIGHBOUR: 'it returns false'. Refute it at one input. -/
def remedyInterestWrong : ChangeSpec := { name := "remedyInterest", fn := fun _ => fun
  | [d1, d2, d3, d4, d5] => { results := [.lit (.bool false)], args := [d1, d2, d3, d4, d5] }
  | _ => none }
def RemedyInterestWrongFalsely : Prop := remedyInterestRow.holds Try.pinned (OpenSpec.ofChange remedyInterestWrong)

/-- 'estoppellaw41.RemedyCaps': WHATEVER THE INPUT: true; the input reads as it did. -/
def remedyCapsSpec : ChangeSpec := { name := "remedyCaps", fn := fun _ => fun
  | [d1, d2, d3] => { results := [.lit (.bool true)], args := [d1, d2, d3] }
  | _ => none }
def remedyCapsRow : OpenClaim := { program := "ytiiegpjpckkohaa", sum := "1015003274329125d3c19fc4e743cd6a1d487943178d2ca6cfeea228eb930034", func := "estoppel/estoppellaw41.RemedyCaps", spec := "remedyCaps", unfollowed := true, recurses := true, apart := false }
def RemedyCapsSaid : Prop := remedyCapsRow.holds Try.pinned (OpenSpec.ofChange remedyCapsSpec)

/-- ITS FALSE NEIGHBOUR: 'it returns false'. Refute it at one input. -/
def remedyCapsWrong : ChangeSpec := { name := "remedyCaps", fn := fun _ => fun
  | [d1, d2, d3] => { results := [.lit (.bool false)], args := [d1, d2, d3] }
  | _ => none }
def RemedyCapsWrongFalsely : Prop := remedyCapsRow.holds Try.pinned (OpenSpec.ofChange remedyCapsWrong)

/-- 'estoppellaw41.RemedyTime': WHATEVER THE INPUT: true; the input reads as it did. -/
def remedyTimeSpec : ChangeSpec := { name := "remedyTime", fn := fun _ => fun
  | [d1, d2, d3, d4, d5, d6] => { results := [.lit (.bool true)], args := [d1, d2, d3, d4, d5, d6] }
  | _ => none }
def remedyTimeRow : OpenClaim := { program := "ytiiegpjpckkohaa", sum := "1015003274329125d3c19fc4e743cd6a1d487943178d2ca6cfeea228eb930034", func := "estoppel/estoppellaw41.RemedyTime", spec := "remedyTime", unfollowed := true, recurses := true, apart := false }
def RemedyTimeSaid : Prop := remedyTimeRow.holds Try.pinned (OpenSpec.ofChange remedyTimeSpec)

/-- ITS FALSE NEIGHBOUR: 'it returns false'. Refute it at one input. -/
def remedyTimeWrong : ChangeSpec := { name := "remedyTime", fn := fun _ => fun
  | [d1, d2, d3, d4, d5, d6] => { results := [.lit (.bool false)], args := [d1, d2, d3, d4, d5, d6] }
  | _ => none }
def RemedyTimeWrongFalsely : Prop := remedyTimeRow.holds Try.pinned (OpenSpec.ofChange remedyTimeWrong)

/-- 'estoppellaw41.RemedyBalance': WHATEVER THE INPUT: true; the input reads as it did. -/
def remedyBalanceSpec : ChangeSpec := { name := "remedyBalance", fn := fun _ => fun
  | [d1, d2, d3, d4, d5, d6] => { results := [.lit (.bool true)], args := [d1, d2, d3, d4, d5, d6] }
  | _ => none }
def remedyBalanceRow : OpenClaim := { program := "ytiiegpjpckkohaa", sum := "1015003274329125d3c19fc4e743cd6a1d487943178d2ca6cfeea228eb930034", func := "estoppel/estoppellaw41.RemedyBalance", spec := "remedyBalance", unfollowed := true, recurses := true, apart := false }
def RemedyBalanceSaid : Prop := remedyBalanceRow.holds Try.pinned (OpenSpec.ofChange remedyBalanceSpec)

/-- ITS FALSE NEIGHBOUR: 'it returns false'. Refute it at one input. -/
def remedyBalanceWrong : ChangeSpec := { name := "remedyBalance", fn := fun _ => fun
  | [d1, d2, d3, d4, d5, d6] => { results := [.lit (.bool false)], args := [d1, d2, d3, d4, d5, d6] }
  | _ => none }
def RemedyBalanceWrongFalsely : Prop := remedyBalanceRow.holds Try.pinned (OpenSpec.ofChange remedyBalanceWrong)

/-- 'estoppellaw41.RemedyBlameless': WHATEVER THE INPUT: true; the input reads as it did. -/
def remedyBlamelessSpec : ChangeSpec := { name := "remedyBlameless", fn := fun _ => fun
  | [d1, d2, d3, d4, d5, d6] => { results := [.lit (.bool true)], args := [d1, d2, d3, d4, d5, d6] }
  | _ => none }
def remedyBlamelessRow : OpenClaim := { program := "ytiiegpjpckkohaa", sum := "1015003274329125d3c19fc4e743cd6a1d487943178d2ca6cfeea228eb930034", func := "estoppel/estoppellaw41.RemedyBlameless", spec := "remedyBlameless", unfollowed := true, recurses := true, apart := false }
def RemedyBlamelessSaid : Prop := remedyBlamelessRow.holds Try.pinned (OpenSpec.ofChange remedyBlamelessSpec)

/-- ITS FALSE NEIGHBOUR: 'it returns false'. Refute it at one input. -/
def remedyBlamelessWrong : ChangeSpec := { name := "remedyBlameless", fn := fun _ => fun
  | [d1, d2, d3, d4, d5, d6] => { results := [.lit (.bool false)], args := [d1, d2, d3, d4, d5, d6] }
  | _ => none }
def RemedyBlamelessWrongFalsely : Prop := remedyBlamelessRow.holds Try.pinned (OpenSpec.ofChange remedyBlamelessWrong)

/-- 'estoppellaw41.RemedySetOff': WHATEVER THE INPUT: true; the input reads as it did. -/
def remedySetOffSpec : ChangeSpec := { name := "remedySetOff", fn := fun _ => fun
  | [d1, d2, d3, d4, d5] => { results := [.lit (.bool true)], args := [d1, d2, d3, d4, d5] }
  | _ => none }
def remedySetOffRow : OpenClaim := { program := "ytiiegpjpckkohaa", sum := "1015003274329125d3c19fc4e743cd6a1d487943178d2ca6cfeea228eb930034", func := "estoppel/estoppellaw41.RemedySetOff", spec := "remedySetOff", unfollowed := true, recurses := true, apart := false }
def RemedySetOffSaid : Prop := remedySetOffRow.holds Try.pinned (OpenSpec.ofChange remedySetOffSpec)

/-- ITS FALSE NEIGHBOUR: 'it returns false'. Refute it at one input. -/
def remedySetOffWrong : ChangeSpec := { name := "remedySetOff", fn := fun _ => fun
  | [d1, d2, d3, d4, d5] => { results := [.lit (.bool false)], args := [d1, d2, d3, d4, d5] }
  | _ => none }
def RemedySetOffWrongFalsely : Prop := remedySetOffRow.holds Try.pinned (OpenSpec.ofChange remedySetOffWrong)

/- THE SECOND FORM. 'bulk': how many values and letters a reading holds, each counted each time it is reached (what is shared counts as often as it is met; a slice's spare places count too). A statement '..UptoSaid' is the law's where the arguments, and the package variables that the reading takes, are together of bulk at most 1048576: NARROWER than '..Said'. Prove '..Said' where nothing that the law and all that it calls make is longer than what came in: it says more and counts as full. Else prove '..UptoSaid'. A law counts once. -/
mutual
def uptoBulk {H : Type} : DataW H → Nat
  | .lit (.string bytes) => bytes.length + 1
  | .lit _ => 1
  | .nil => 1
  | .ptr d => uptoBulk d + 1
  | .slice elems spare => uptoBulkAll elems + uptoBulkAll spare + 1
  | .agg parts => uptoBulkAll parts + 1
  | .iface _ d => uptoBulk d + 1
  | .map entries => uptoBulkEntries entries + 1
  | .held _ => 1
def uptoBulkAll {H : Type} : List (DataW H) → Nat
  | [] => 0
  | d :: r => uptoBulk d + uptoBulkAll r
def uptoBulkEntries {H : Type} : List (Lit × DataW H) → Nat
  | [] => 0
  | x :: r => uptoBulkEntry x + uptoBulkEntries r
def uptoBulkEntry {H : Type} : Lit × DataW H → Nat
  | (.string bytes, d) => bytes.length + uptoBulk d + 1
  | (_, d) => uptoBulk d + 1
 end
def uptoSmall : (H : Type) → List (DataW H) → Bool := fun _ ds => decide (uptoBulkAll ds ≤ 1048576)
def OpenSpec.upto (s : _root_.Go.ChangeSpec) : _root_.Go.OpenSpec := { _root_.Go.OpenSpec.ofChange s with cond := some uptoSmall }

/-- 'estoppeltop.TopNetted', WHERE WHAT IT READS IS OF BULK AT MOST 1048576: true; the input reads as it did. -/
def topNettedUptoRow : OpenClaim := { program := "ytiiegpjpckkohaa", sum := "1015003274329125d3c19fc4e743cd6a1d487943178d2ca6cfeea228eb930034", func := "estoppel/estoppeltop.TopNetted", spec := "topNetted", unfollowed := true, recurses := true, apart := false, narrowed := true }
def TopNettedUptoSaid : Prop := topNettedUptoRow.holds Try.pinned (OpenSpec.upto topNettedSpec)

/-- 'estoppeltop.TopUnits', WHERE WHAT IT READS IS OF BULK AT MOST 1048576: true; the input reads as it did. -/
def topUnitsUptoRow : OpenClaim := { program := "ytiiegpjpckkohaa", sum := "1015003274329125d3c19fc4e743cd6a1d487943178d2ca6cfeea228eb930034", func := "estoppel/estoppeltop.TopUnits", spec := "topUnits", unfollowed := true, recurses := true, apart := false, narrowed := true }
def TopUnitsUptoSaid : Prop := topUnitsUptoRow.holds Try.pinned (OpenSpec.upto topUnitsSpec)

/-- 'estoppellaw17.TallyConserves', WHERE WHAT IT READS IS OF BULK AT MOST 1048576: true; the input reads as it did. -/
def tallyConservesUptoRow : OpenClaim := { program := "ytiiegpjpckkohaa", sum := "1015003274329125d3c19fc4e743cd6a1d487943178d2ca6cfeea228eb930034", func := "estoppel/estoppellaw17.TallyConserves", spec := "tallyConserves", unfollowed := true, recurses := true, apart := false, narrowed := true }
def TallyConservesUptoSaid : Prop := tallyConservesUptoRow.holds Try.pinned (OpenSpec.upto tallyConservesSpec)

/-- 'estoppellaw17.TallySteps', WHERE WHAT IT READS IS OF BULK AT MOST 1048576: true; the input reads as it did. -/
def tallyStepsUptoRow : OpenClaim := { program := "ytiiegpjpckkohaa", sum := "1015003274329125d3c19fc4e743cd6a1d487943178d2ca6cfeea228eb930034", func := "estoppel/estoppellaw17.TallySteps", spec := "tallySteps", unfollowed := true, recurses := true, apart := false, narrowed := true }
def TallyStepsUptoSaid : Prop := tallyStepsUptoRow.holds Try.pinned (OpenSpec.upto tallyStepsSpec)

/-- 'estoppellaw17.TallyClauses', WHERE WHAT IT READS IS OF BULK AT MOST 1048576: true; the input reads as it did. -/
def tallyClausesUptoRow : OpenClaim := { program := "ytiiegpjpckkohaa", sum := "1015003274329125d3c19fc4e743cd6a1d487943178d2ca6cfeea228eb930034", func := "estoppel/estoppellaw17.TallyClauses", spec := "tallyClauses", unfollowed := true, recurses := true, apart := false, narrowed := true }
def TallyClausesUptoSaid : Prop := tallyClausesUptoRow.holds Try.pinned (OpenSpec.upto tallyClausesSpec)

/-- 'estoppellaw17.TallySetOff', WHERE WHAT IT READS IS OF BULK AT MOST 1048576: true; the input reads as it did. -/
def tallySetOffUptoRow : OpenClaim := { program := "ytiiegpjpckkohaa", sum := "1015003274329125d3c19fc4e743cd6a1d487943178d2ca6cfeea228eb930034", func := "estoppel/estoppellaw17.TallySetOff", spec := "tallySetOff", unfollowed := true, recurses := true, apart := false, narrowed := true }
def TallySetOffUptoSaid : Prop := tallySetOffUptoRow.holds Try.pinned (OpenSpec.upto tallySetOffSpec)

/-- 'estoppellaw41.RemedyInterest', WHERE WHAT IT READS IS OF BULK AT MOST 1048576: true; the input reads as it did. -/
def remedyInterestUptoRow : OpenClaim := { program := "ytiiegpjpckkohaa", sum := "1015003274329125d3c19fc4e743cd6a1d487943178d2ca6cfeea228eb930034", func := "estoppel/estoppellaw41.RemedyInterest", spec := "remedyInterest", unfollowed := true, recurses := true, apart := false, narrowed := true }
def RemedyInterestUptoSaid : Prop := remedyInterestUptoRow.holds Try.pinned (OpenSpec.upto remedyInterestSpec)

/-- 'estoppellaw41.RemedyCaps', WHERE WHAT IT READS IS OF BULK AT MOST 1048576: true; the input reads as it did. -/
def remedyCapsUptoRow : OpenClaim := { program := "ytiiegpjpckkohaa", sum := "1015003274329125d3c19fc4e743cd6a1d487943178d2ca6cfeea228eb930034", func := "estoppel/estoppellaw41.RemedyCaps", spec := "remedyCaps", unfollowed := true, recurses := true, apart := false, narrowed := true }
def RemedyCapsUptoSaid : Prop := remedyCapsUptoRow.holds Try.pinned (OpenSpec.upto remedyCapsSpec)

/-- 'estoppellaw41.RemedyTime', WHERE WHAT IT READS IS OF BULK AT MOST 1048576: true; the input reads as it did. -/
def remedyTimeUptoRow : OpenClaim := { program := "ytiiegpjpckkohaa", sum := "1015003274329125d3c19fc4e743cd6a1d487943178d2ca6cfeea228eb930034", func := "estoppel/estoppellaw41.RemedyTime", spec := "remedyTime", unfollowed := true, recurses := true, apart := false, narrowed := true }
def RemedyTimeUptoSaid : Prop := remedyTimeUptoRow.holds Try.pinned (OpenSpec.upto remedyTimeSpec)

/-- 'estoppellaw41.RemedyBalance', WHERE WHAT IT READS IS OF BULK AT MOST 1048576: true; the input reads as it did. -/
def remedyBalanceUptoRow : OpenClaim := { program := "ytiiegpjpckkohaa", sum := "1015003274329125d3c19fc4e743cd6a1d487943178d2ca6cfeea228eb930034", func := "estoppel/estoppellaw41.RemedyBalance", spec := "remedyBalance", unfollowed := true, recurses := true, apart := false, narrowed := true }
def RemedyBalanceUptoSaid : Prop := remedyBalanceUptoRow.holds Try.pinned (OpenSpec.upto remedyBalanceSpec)

/-- 'estoppellaw41.RemedyBlameless', WHERE WHAT IT READS IS OF BULK AT MOST 1048576: true; the input reads as it did. -/
def remedyBlamelessUptoRow : OpenClaim := { program := "ytiiegpjpckkohaa", sum := "1015003274329125d3c19fc4e743cd6a1d487943178d2ca6cfeea228eb930034", func := "estoppel/estoppellaw41.RemedyBlameless", spec := "remedyBlameless", unfollowed := true, recurses := true, apart := false, narrowed := true }
def RemedyBlamelessUptoSaid : Prop := remedyBlamelessUptoRow.holds Try.pinned (OpenSpec.upto remedyBlamelessSpec)

/-- 'estoppellaw41.RemedySetOff', WHERE WHAT IT READS IS OF BULK AT MOST 1048576: true; the input reads as it did. -/
def remedySetOffUptoRow : OpenClaim := { program := "ytiiegpjpckkohaa", sum := "1015003274329125d3c19fc4e743cd6a1d487943178d2ca6cfeea228eb930034", func := "estoppel/estoppellaw41.RemedySetOff", spec := "remedySetOff", unfollowed := true, recurses := true, apart := false, narrowed := true }
def RemedySetOffUptoSaid : Prop := remedySetOffUptoRow.holds Try.pinned (OpenSpec.upto remedySetOffSpec)

end Rows
end Go.Proofs.Ytiiegpjpckkohaa
