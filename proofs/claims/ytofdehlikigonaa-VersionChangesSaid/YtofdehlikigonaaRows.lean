/-
  No cell of these rows narrows 'for every input' (looked for: loops, veiled, ifaces, maps, wideKeys, modest, calm, conditions, laid).
  DERIVED. THE GIVEN ROWS OF THIS SEAT. 6 by the template 'for every input the law returns true; each argument reads behind the call as it read before'; 0 by the template 'total and deterministic' (their statements: YtofdehlikigonaaTotals.lean).
  GIVEN WITH THE SEED: the statements are not yours to turn. If you find one false, say at which input.
  Laid BY PROGRAM, IN A SANDBOX (cutbox-rows.mjs): the forced cells as the released guide's own fill.sh prints them over the translation 3342535188bf898a… (all of the seat's roots in one cut). By AI agents, Wed Nov 11 2026. No macro, syntax, notation, axiom, sorry.
-/
import Derived.Test.YtofdehlikigonaaChecked
import GoSem.Claim
import GoSem.ClaimJoined
import GoSem.ClaimMapViews
import Derived.JoinedTies
import Derived.KernelRfl
namespace Go.Proofs.Ytofdehlikigonaa
/- THE CELL 'sum', in the pinned program and in every row, IS THE sha256 OF THE DUMP (.gsa) THAT YtofdehlikigonaaProg.lean LOADS. Nothing in Lean hashes anything: it is a label: what it is worth is what the hold of that sum in a sandbox is worth. -/
noncomputable def Try.pinned : Pinned := { name := "ytofdehlikigonaa", sum := "3342535188bf898a99ba181a13e4f1fab66c8bd287b19c060df124c41b5d4ab8", checked := Try.checked }
namespace Rows
def none {H : Type} : Left H := { results := [], args := [] }

/-- 'estoppellaw25.VersionOrders': WHATEVER THE INPUT: true; the input reads as it did. -/
def versionOrdersSpec : ChangeSpec := { name := "versionOrders", fn := fun _ => fun
  | [d] => { results := [.lit (.bool true)], args := [d] }
  | _ => none }
def versionOrdersRow : OpenClaim := { program := "ytofdehlikigonaa", sum := "3342535188bf898a99ba181a13e4f1fab66c8bd287b19c060df124c41b5d4ab8", func := "estoppel/estoppellaw25.VersionOrders", spec := "versionOrders", unfollowed := true, recurses := true, apart := false }
def VersionOrdersSaid : Prop := versionOrdersRow.holds Try.pinned (OpenSpec.ofChange versionOrdersSpec)

/-- ITS FALSE NEIGHBOUR: 'it returns false'. Refute it at one input. -/
def versionOrdersWrong : ChangeSpec := { name := "versionOrders", fn := fun _ => fun
  | [d] => { results := [.lit (.bool false)], args := [d] }
  | _ => none }
def VersionOrdersWrongFalsely : Prop := versionOrdersRow.holds Try.pinned (OpenSpec.ofChange versionOrdersWrong)

/-- 'estoppellaw25.VersionSequence': WHATEVER THE INPUT: true; the input reads as it did. -/
def versionSequenceSpec : ChangeSpec := { name := "versionSequence", fn := fun _ => fun
  | [d1, d2, d3, d4, d5] => { results := [.lit (.bool true)], args := [d1, d2, d3, d4, d5] }
  | _ => none }
def versionSequenceRow : OpenClaim := { program := "ytofdehlikigonaa", sum := "3342535188bf898a99ba181a13e4f1fab66c8bd287b19c060df124c41b5d4ab8", func := "estoppel/estoppellaw25.VersionSequence", spec := "versionSequence", unfollowed := true, recurses := true, apart := false }
def VersionSequenceSaid : Prop := versionSequenceRow.holds Try.pinned (OpenSpec.ofChange versionSequenceSpec)

/-- ITS FALSE NEIGHBOUR: 'it returns false'. Refute it at one input. -/
def versionSequenceWrong : ChangeSpec := { name := "versionSequence", fn := fun _ => fun
  | [d1, d2, d3, d4, d5] => { results := [.lit (.bool false)], args := [d1, d2, d3, d4, d5] }
  | _ => none }
def VersionSequenceWrongFalsely : Prop := versionSequenceRow.holds Try.pinned (OpenSpec.ofChange versionSequenceWrong)

/-- 'estoppellaw25.VersionCounts': WHATEVER THE INPUT: true; the input reads as it did. -/
def versionCountsSpec : ChangeSpec := { name := "versionCounts", fn := fun _ => fun
  | [d1, d2, d3, d4] => { results := [.lit (.bool true)], args := [d1, d2, d3, d4] }
  | _ => none }
def versionCountsRow : OpenClaim := { program := "ytofdehlikigonaa", sum := "3342535188bf898a99ba181a13e4f1fab66c8bd287b19c060df124c41b5d4ab8", func := "estoppel/estoppellaw25.VersionCounts", spec := "versionCounts", unfollowed := true, recurses := true, apart := false }
def VersionCountsSaid : Prop := versionCountsRow.holds Try.pinned (OpenSpec.ofChange versionCountsSpec)

/-- ITS FALSE NEIGHBOUR: 'it returns false'. Refute it at one input. -/
def versionCountsWrong : ChangeSpec := { name := "versionCounts", fn := fun _ => fun
  | [d1, d2, d3, d4] => { results := [.lit (.bool false)], args := [d1, d2, d3, d4] }
  | _ => none }
def VersionCountsWrongFalsely : Prop := versionCountsRow.holds Try.pinned (OpenSpec.ofChange versionCountsWrong)

/-- 'estoppellaw25.VersionDays': WHATEVER THE INPUT: true; the input reads as it did. -/
def versionDaysSpec : ChangeSpec := { name := "versionDays", fn := fun _ => fun
  | [d1, d2, d3, d4, d5] => { results := [.lit (.bool true)], args := [d1, d2, d3, d4, d5] }
  | _ => none }
def versionDaysRow : OpenClaim := { program := "ytofdehlikigonaa", sum := "3342535188bf898a99ba181a13e4f1fab66c8bd287b19c060df124c41b5d4ab8", func := "estoppel/estoppellaw25.VersionDays", spec := "versionDays", unfollowed := true, recurses := true, apart := false }
def VersionDaysSaid : Prop := versionDaysRow.holds Try.pinned (OpenSpec.ofChange versionDaysSpec)

/-- ITS FALSE NEIGHBOUR: 'it returns false'. Refute it at one input. -/
def versionDaysWrong : ChangeSpec := { name := "versionDays", fn := fun _ => fun
  | [d1, d2, d3, d4, d5] => { results := [.lit (.bool false)], args := [d1, d2, d3, d4, d5] }
  | _ => none }
def VersionDaysWrongFalsely : Prop := versionDaysRow.holds Try.pinned (OpenSpec.ofChange versionDaysWrong)

/-- 'estoppellaw25.VersionLeavesOut': WHATEVER THE INPUT: true; the input reads as it did. -/
def versionLeavesOutSpec : ChangeSpec := { name := "versionLeavesOut", fn := fun _ => fun
  | [d1, d2, d3, d4] => { results := [.lit (.bool true)], args := [d1, d2, d3, d4] }
  | _ => none }
def versionLeavesOutRow : OpenClaim := { program := "ytofdehlikigonaa", sum := "3342535188bf898a99ba181a13e4f1fab66c8bd287b19c060df124c41b5d4ab8", func := "estoppel/estoppellaw25.VersionLeavesOut", spec := "versionLeavesOut", unfollowed := true, recurses := true, apart := false }
def VersionLeavesOutSaid : Prop := versionLeavesOutRow.holds Try.pinned (OpenSpec.ofChange versionLeavesOutSpec)

/-- ITS FALSE NEIGHBOUR: 'it returns false'. Refute it at one input. -/
def versionLeavesOutWrong : ChangeSpec := { name := "versionLeavesOut", fn := fun _ => fun
  | [d1, d2, d3, d4] => { results := [.lit (.bool false)], args := [d1, d2, d3, d4] }
  | _ => none }
def VersionLeavesOutWrongFalsely : Prop := versionLeavesOutRow.holds Try.pinned (OpenSpec.ofChange versionLeavesOutWrong)

/-- 'estoppellaw25.VersionChanges': WHATEVER THE INPUT: true; the input reads as it did. -/
def versionChangesSpec : ChangeSpec := { name := "versionChanges", fn := fun _ => fun
  | [d1, d2, d3, d4] => { results := [.lit (.bool true)], args := [d1, d2, d3, d4] }
  | _ => none }
def versionChangesRow : OpenClaim := { program := "ytofdehlikigonaa", sum := "3342535188bf898a99ba181a13e4f1fab66c8bd287b19c060df124c41b5d4ab8", func := "estoppel/estoppellaw25.VersionChanges", spec := "versionChanges", unfollowed := true, recurses := true, apart := false }
def VersionChangesSaid : Prop := versionChangesRow.holds Try.pinned (OpenSpec.ofChange versionChangesSpec)

/-- ITS FALSE NEIGHBOUR: 'it returns false'. Refute it at one input. -/
def versionChangesWrong : ChangeSpec := { name := "versionChanges", fn := fun _ => fun
  | [d1, d2, d3, d4] => { results := [.lit (.bool false)], args := [d1, d2, d3, d4] }
  | _ => none }
def VersionChangesWrongFalsely : Prop := versionChangesRow.holds Try.pinned (OpenSpec.ofChange versionChangesWrong)

/- THE SECOND FORM. 'bulk': how many values and letters a reading holds, each counted each time it is reached (what is shared counts as often as it is met; a slice's spare places count too). A statement '..UptoSaid' is the law's where the arguments, and the package variables that the reading takes, are together of bulk at most 1048576: NARROWER than '..Said'. Prove '..Said' where nothing that the law and all that it calls make is longer than what came in: it says more and counts as full. Else prove '..UptoSaid'. A law counts once. -/
mutual
def uptoBulk {H : Type} : DataW H → Nat
  | .lit (.string bytes) => bytes.length + 1
  | .lit _ => 1
  | .nil => 1
  | .ptr d => uptoBulk d + 1
  | .slice elems spare => uptoBulkAll elems + uptoBulkAll spare + 1
  | .agg parts => uptoBulkAll parts + 1
  | .iface _ d => uptoBulk d + 1
  | .map entries => uptoBulkEntries entries + 1
  | .held _ => 1
def uptoBulkAll {H : Type} : List (DataW H) → Nat
  | [] => 0
  | d :: r => uptoBulk d + uptoBulkAll r
def uptoBulkEntries {H : Type} : List (Lit × DataW H) → Nat
  | [] => 0
  | x :: r => uptoBulkEntry x + uptoBulkEntries r
def uptoBulkEntry {H : Type} : Lit × DataW H → Nat
  | (.string bytes, d) => bytes.length + uptoBulk d + 1
  | (_, d) => uptoBulk d + 1
 end
def uptoSmall : (H : Type) → List (DataW H) → Bool := fun _ ds => decide (uptoBulkAll ds ≤ 1048576)
def OpenSpec.upto (s : _root_.Go.ChangeSpec) : _root_.Go.OpenSpec := { _root_.Go.OpenSpec.ofChange s with cond := some uptoSmall }

/-- 'estoppellaw25.VersionOrders', WHERE WHAT IT READS IS OF BULK AT MOST 1048576: true; the input reads as it did. -/
def versionOrdersUptoRow : OpenClaim := { program := "ytofdehlikigonaa", sum := "3342535188bf898a99ba181a13e4f1fab66c8bd287b19c060df124c41b5d4ab8", func := "estoppel/estoppellaw25.VersionOrders", spec := "versionOrders", unfollowed := true, recurses := true, apart := false, narrowed := true }
def VersionOrdersUptoSaid : Prop := versionOrdersUptoRow.holds Try.pinned (OpenSpec.upto versionOrdersSpec)

/-- 'estoppellaw25.VersionSequence', WHERE WHAT IT READS IS OF BULK AT MOST 1048576: true; the input reads as it did. -/
def versionSequenceUptoRow : OpenClaim := { program := "ytofdehlikigonaa", sum := "3342535188bf898a99ba181a13e4f1fab66c8bd287b19c060df124c41b5d4ab8", func := "estoppel/estoppellaw25.VersionSequence", spec := "versionSequence", unfollowed := true, recurses := true, apart := false, narrowed := true }
def VersionSequenceUptoSaid : Prop := versionSequenceUptoRow.holds Try.pinned (OpenSpec.upto versionSequenceSpec)

/-- 'estoppellaw25.VersionCounts', WHERE WHAT IT READS IS OF BULK AT MOST 1048576: true; the input reads as it did. -/
def versionCountsUptoRow : OpenClaim := { program := "ytofdehlikigonaa", sum := "3342535188bf898a99ba181a13e4f1fab66c8bd287b19c060df124c41b5d4ab8", func := "estoppel/estoppellaw25.VersionCounts", spec := "versionCounts", unfollowed := true, recurses := true, apart := false, narrowed := true }
def VersionCountsUptoSaid : Prop := versionCountsUptoRow.holds Try.pinned (OpenSpec.upto versionCountsSpec)

/-- 'estoppellaw25.VersionDays', WHERE WHAT IT READS IS OF BULK AT MOST 1048576: true; the input reads as it did. -/
def versionDaysUptoRow : OpenClaim := { program := "ytofdehlikigonaa", sum := "3342535188bf898a99ba181a13e4f1fab66c8bd287b19c060df124c41b5d4ab8", func := "estoppel/estoppellaw25.VersionDays", spec := "versionDays", unfollowed := true, recurses := true, apart := false, narrowed := true }
def VersionDaysUptoSaid : Prop := versionDaysUptoRow.holds Try.pinned (OpenSpec.upto versionDaysSpec)

/-- 'estoppellaw25.VersionLeavesOut', WHERE WHAT IT READS IS OF BULK AT MOST 1048576: true; the input reads as it did. -/
def versionLeavesOutUptoRow : OpenClaim := { program := "ytofdehlikigonaa", sum := "3342535188bf898a99ba181a13e4f1fab66c8bd287b19c060df124c41b5d4ab8", func := "estoppel/estoppellaw25.VersionLeavesOut", spec := "versionLeavesOut", unfollowed := true, recurses := true, apart := false, narrowed := true }
def VersionLeavesOutUptoSaid : Prop := versionLeavesOutUptoRow.holds Try.pinned (OpenSpec.upto versionLeavesOutSpec)

/-- 'estoppellaw25.VersionChanges', WHERE WHAT IT READS IS OF BULK AT MOST 1048576: true; the input reads as it did. -/
def versionChangesUptoRow : OpenClaim := { program := "ytofdehlikigonaa", sum := "3342535188bf898a99ba181a13e4f1fab66c8bd287b19c060df124c41b5d4ab8", func := "estoppel/estoppellaw25.VersionChanges", spec := "versionChanges", unfollowed := true, recurses := true, apart := false, narrowed := true }
def VersionChangesUptoSaid : Prop := versionChangesUptoRow.holds Try.pinned (OpenSpec.upto versionChangesSpec)

end Rows
end Go.Proofs.Ytofdehlikigonaa
