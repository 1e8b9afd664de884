/-
  No cell of these rows narrows 'for every input' (looked for: loops, veiled, ifaces, maps, wideKeys, modest, calm, conditions, laid).
  DERIVED. THE GIVEN ROWS OF THIS SEAT. 8 by the template 'for every input the law returns true; each argument reads behind the call as it read before'; 0 by the template 'total and deterministic' (their statements: YtmnnjllimphjhaaTotals.lean).
  GIVEN WITH THE SEED: the statements are not yours to turn. If you find one false, say at which input.
  Laid BY PROGRAM, IN A SANDBOX (cutbox-rows.mjs): the forced cells as the released guide's own fill.sh prints them over the translation 6b0d4d83949672d5… (all of the seat's roots in one cut). By AI agents, Wed Nov 11 2026. No macro, syntax, notation, axiom, sorry.
-/
import Derived.Test.YtmnnjllimphjhaaChecked
import GoSem.Claim
import GoSem.ClaimJoined
import GoSem.ClaimMapViews
import Derived.JoinedTies
import Derived.KernelRfl
namespace Go.Proofs.Ytmnnjllimphjhaa
/- THE CELL 'sum', in the pinned program and in every row, IS THE sha256 OF THE DUMP (.gsa) THAT YtmnnjllimphjhaaProg.lean LOADS. Nothing in Lean hashes anything: it is a label: what it is worth is what the hold of that sum in a sandbox is worth. -/
noncomputable def Try.pinned : Pinned := { name := "ytmnnjllimphjhaa", sum := "6b0d4d83949672d570cb202c38cca4a60941c80f7e2f2835a81519271e143f3d", checked := Try.checked }
namespace Rows
def none {H : Type} : Left H := { results := [], args := [] }

/-- 'estoppellaw14.TracePrefix': WHATEVER THE INPUT: true; the input reads as it did. -/
def tracePrefixSpec : ChangeSpec := { name := "tracePrefix", fn := fun _ => fun
  | [d1, d2, d3] => { results := [.lit (.bool true)], args := [d1, d2, d3] }
  | _ => none }
def tracePrefixRow : OpenClaim := { program := "ytmnnjllimphjhaa", sum := "6b0d4d83949672d570cb202c38cca4a60941c80f7e2f2835a81519271e143f3d", func := "estoppel/estoppellaw14.TracePrefix", spec := "tracePrefix", unfollowed := true, recurses := true, apart := false }
def TracePrefixSaid : Prop := tracePrefixRow.holds Try.pinned (OpenSpec.ofChange tracePrefixSpec)

/-- ITS FALSE NEIGHBOUR: 'it returns false'. Refute it at one input. -/
def tracePrefixWrong : ChangeSpec := { name := "tracePrefix", fn := fun _ => fun
  | [d1, d2, d3] => { results := [.lit (.bool false)], args := [d1, d2, d3] }
  | _ => none }
def TracePrefixWrongFalsely : Prop := tracePrefixRow.holds Try.pinned (OpenSpec.ofChange tracePrefixWrong)

/-- 'estoppellaw14.TraceProgress': WHATEVER THE INPUT: true; the input reads as it did. -/
def traceProgressSpec : ChangeSpec := { name := "traceProgress", fn := fun _ => fun
  | [d1, d2, d3] => { results := [.lit (.bool true)], args := [d1, d2, d3] }
  | _ => none }
def traceProgressRow : OpenClaim := { program := "ytmnnjllimphjhaa", sum := "6b0d4d83949672d570cb202c38cca4a60941c80f7e2f2835a81519271e143f3d", func := "estoppel/estoppellaw14.TraceProgress", spec := "traceProgress", unfollowed := true, recurses := true, apart := false }
def TraceProgressSaid : Prop := traceProgressRow.holds Try.pinned (OpenSpec.ofChange traceProgressSpec)

/-- ITS FALSE NEIGHBOUR: 'it returns false'. Refute it at one input. -/
def traceProgressWrong : ChangeSpec := { name := "traceProgress", fn := fun _ => fun
  | [d1, d2, d3] => { results := [.lit (.bool false)], args := [d1, d2, d3] }
  | _ => none }
def TraceProgressWrongFalsely : Prop := traceProgressRow.holds Try.pinned (OpenSpec.ofChange traceProgressWrong)

/-- 'estoppellaw14.TraceStarts': WHATEVER THE INPUT: true; the input reads as it did. -/
def traceStartsSpec : ChangeSpec := { name := "traceStarts", fn := fun _ => fun
  | [d1, d2, d3] => { results := [.lit (.bool true)], args := [d1, d2, d3] }
  | _ => none }
def traceStartsRow : OpenClaim := { program := "ytmnnjllimphjhaa", sum := "6b0d4d83949672d570cb202c38cca4a60941c80f7e2f2835a81519271e143f3d", func := "estoppel/estoppellaw14.TraceStarts", spec := "traceStarts", unfollowed := true, recurses := true, apart := false }
def TraceStartsSaid : Prop := traceStartsRow.holds Try.pinned (OpenSpec.ofChange traceStartsSpec)

/-- ITS FALSE NEIGHBOUR: 'it returns false'. Refute it at one input. -/
def traceStartsWrong : ChangeSpec := { name := "traceStarts", fn := fun _ => fun
  | [d1, d2, d3] => { results := [.lit (.bool false)], args := [d1, d2, d3] }
  | _ => none }
def TraceStartsWrongFalsely : Prop := traceStartsRow.holds Try.pinned (OpenSpec.ofChange traceStartsWrong)

/-- 'estoppellaw14.TraceHolders': WHATEVER THE INPUT: true; the input reads as it did. -/
def traceHoldersSpec : ChangeSpec := { name := "traceHolders", fn := fun _ => fun
  | [d1, d2, d3] => { results := [.lit (.bool true)], args := [d1, d2, d3] }
  | _ => none }
def traceHoldersRow : OpenClaim := { program := "ytmnnjllimphjhaa", sum := "6b0d4d83949672d570cb202c38cca4a60941c80f7e2f2835a81519271e143f3d", func := "estoppel/estoppellaw14.TraceHolders", spec := "traceHolders", unfollowed := true, recurses := true, apart := false }
def TraceHoldersSaid : Prop := traceHoldersRow.holds Try.pinned (OpenSpec.ofChange traceHoldersSpec)

/-- ITS FALSE NEIGHBOUR: 'it returns false'. Refute it at one input. -/
def traceHoldersWrong : ChangeSpec := { name := "traceHolders", fn := fun _ => fun
  | [d1, d2, d3] => { results := [.lit (.bool false)], args := [d1, d2, d3] }
  | _ => none }
def TraceHoldersWrongFalsely : Prop := traceHoldersRow.holds Try.pinned (OpenSpec.ofChange traceHoldersWrong)

/-- 'estoppellaw14.TraceEnds': WHATEVER THE INPUT: true; the input reads as it did. -/
def traceEndsSpec : ChangeSpec := { name := "traceEnds", fn := fun _ => fun
  | [d1, d2] => { results := [.lit (.bool true)], args := [d1, d2] }
  | _ => none }
def traceEndsRow : OpenClaim := { program := "ytmnnjllimphjhaa", sum := "6b0d4d83949672d570cb202c38cca4a60941c80f7e2f2835a81519271e143f3d", func := "estoppel/estoppellaw14.TraceEnds", spec := "traceEnds", unfollowed := true, recurses := true, apart := false }
def TraceEndsSaid : Prop := traceEndsRow.holds Try.pinned (OpenSpec.ofChange traceEndsSpec)

/-- ITS FALSE NEIGHBOUR: 'it returns false'. Refute it at one input. -/
def traceEndsWrong : ChangeSpec := { name := "traceEnds", fn := fun _ => fun
  | [d1, d2] => { results := [.lit (.bool false)], args := [d1, d2] }
  | _ => none }
def TraceEndsWrongFalsely : Prop := traceEndsRow.holds Try.pinned (OpenSpec.ofChange traceEndsWrong)

/-- 'estoppellaw14.TraceDays': WHATEVER THE INPUT: true; the input reads as it did. -/
def traceDaysSpec : ChangeSpec := { name := "traceDays", fn := fun _ => fun
  | [d1, d2] => { results := [.lit (.bool true)], args := [d1, d2] }
  | _ => none }
def traceDaysRow : OpenClaim := { program := "ytmnnjllimphjhaa", sum := "6b0d4d83949672d570cb202c38cca4a60941c80f7e2f2835a81519271e143f3d", func := "estoppel/estoppellaw14.TraceDays", spec := "traceDays", unfollowed := true, recurses := true, apart := false }
def TraceDaysSaid : Prop := traceDaysRow.holds Try.pinned (OpenSpec.ofChange traceDaysSpec)

/-- ITS FALSE NEIGHBOUR: 'it returns false'. Refute it at one input. -/
def traceDaysWrong : ChangeSpec := { name := "traceDays", fn := fun _ => fun
  | [d1, d2] => { results := [.lit (.bool false)], args := [d1, d2] }
  | _ => none }
def TraceDaysWrongFalsely : Prop := traceDaysRow.holds Try.pinned (OpenSpec.ofChange traceDaysWrong)

/-- 'estoppellaw14.TraceBearers': WHATEVER THE INPUT: true; the input reads as it did. -/
def traceBearersSpec : ChangeSpec := { name := "traceBearers", fn := fun _ => fun
  | [d1, d2] => { results := [.lit (.bool true)], args := [d1, d2] }
  | _ => none }
def traceBearersRow : OpenClaim := { program := "ytmnnjllimphjhaa", sum := "6b0d4d83949672d570cb202c38cca4a60941c80f7e2f2835a81519271e143f3d", func := "estoppel/estoppellaw14.TraceBearers", spec := "traceBearers", unfollowed := true, recurses := true, apart := false }
def TraceBearersSaid : Prop := traceBearersRow.holds Try.pinned (OpenSpec.ofChange traceBearersSpec)

/-- ITS FALSE NEIGHBOUR: 'it returns false'. Refute it at one input. -/
def traceBearersWrong : ChangeSpec := { name := "traceBearers", fn := fun _ => fun
  | [d1, d2] => { results := [.lit (.bool false)], args := [d1, d2] }
  | _ => none }
def TraceBearersWrongFalsely : Prop := traceBearersRow.holds Try.pinned (OpenSpec.ofChange traceBearersWrong)

/-- 'estoppellaw14.TraceStrangers': WHATEVER THE INPUT: true; the input reads as it did. -/
def traceStrangersSpec : ChangeSpec := { name := "traceStrangers", fn := fun _ => fun
  | [d1, d2] => { results := [.lit (.bool true)], args := [d1, d2] }
  | _ => none }
def traceStrangersRow : OpenClaim := { program := "ytmnnjllimphjhaa", sum := "6b0d4d83949672d570cb202c38cca4a60941c80f7e2f2835a81519271e143f3d", func := "estoppel/estoppellaw14.TraceStrangers", spec := "traceStrangers", unfollowed := true, recurses := true, apart := false }
def TraceStrangersSaid : Prop := traceStrangersRow.holds Try.pinned (OpenSpec.ofChange traceStrangersSpec)

/-- ITS FALSE NEIGHBOUR: 'it returns false'. Refute it at one input. -/
def traceStrangersWrong : ChangeSpec := { name := "traceStrangers", fn := fun _ => fun
  | [d1, d2] => { results := [.lit (.bool false)], args := [d1, d2] }
  | _ => none }
def TraceStrangersWrongFalsely : Prop := traceStrangersRow.holds Try.pinned (OpenSpec.ofChange traceStrangersWrong)

/- THE SECOND FORM. 'bulk': how many values and letters a reading holds, each counted each time it is reached (what is shared counts as often as it is met; a slice's spare places count too). A statement '..UptoSaid' is the law's where the arguments, and the package variables that the reading takes, are together of bulk at most 1048576: NARROWER than '..Said'. Prove '..Said' where nothing that the law and all that it calls make is longer than what came in: it says more and counts as full. Else prove '..UptoSaid'. A law counts once. -/
mutual
def uptoBulk {H : Type} : DataW H → Nat
  | .lit (.string bytes) => bytes.length + 1
  | .lit _ => 1
  | .nil => 1
  | .ptr d => uptoBulk d + 1
  | .slice elems spare => uptoBulkAll elems + uptoBulkAll spare + 1
  | .agg parts => uptoBulkAll parts + 1
  | .iface _ d => uptoBulk d + 1
  | .map entries => uptoBulkEntries entries + 1
  | .held _ => 1
def uptoBulkAll {H : Type} : List (DataW H) → Nat
  | [] => 0
  | d :: r => uptoBulk d + uptoBulkAll r
def uptoBulkEntries {H : Type} : List (Lit × DataW H) → Nat
  | [] => 0
  | x :: r => uptoBulkEntry x + uptoBulkEntries r
def uptoBulkEntry {H : Type} : Lit × DataW H → Nat
  | (.string bytes, d) => bytes.length + uptoBulk d + 1
  | (_, d) => uptoBulk d + 1
 end
def uptoSmall : (H : Type) → List (DataW H) → Bool := fun _ ds => decide (uptoBulkAll ds ≤ 1048576)
def OpenSpec.upto (s : _root_.Go.ChangeSpec) : _root_.Go.OpenSpec := { _root_.Go.OpenSpec.ofChange s with cond := some uptoSmall }

/-- 'estoppellaw14.TracePrefix', WHERE WHAT IT READS IS OF BULK AT MOST 1048576: true; the input reads as it did. -/
def tracePrefixUptoRow : OpenClaim := { program := "ytmnnjllimphjhaa", sum := "6b0d4d83949672d570cb202c38cca4a60941c80f7e2f2835a81519271e143f3d", func := "estoppel/estoppellaw14.TracePrefix", spec := "tracePrefix", unfollowed := true, recurses := true, apart := false, narrowed := true }
def TracePrefixUptoSaid : Prop := tracePrefixUptoRow.holds Try.pinned (OpenSpec.upto tracePrefixSpec)

/-- 'estoppellaw14.TraceProgress', WHERE WHAT IT READS IS OF BULK AT MOST 1048576: true; the input reads as it did. -/
def traceProgressUptoRow : OpenClaim := { program := "ytmnnjllimphjhaa", sum := "6b0d4d83949672d570cb202c38cca4a60941c80f7e2f2835a81519271e143f3d", func := "estoppel/estoppellaw14.TraceProgress", spec := "traceProgress", unfollowed := true, recurses := true, apart := false, narrowed := true }
def TraceProgressUptoSaid : Prop := traceProgressUptoRow.holds Try.pinned (OpenSpec.upto traceProgressSpec)

/-- 'estoppellaw14.TraceStarts', WHERE WHAT IT READS IS OF BULK AT MOST 1048576: true; the input reads as it did. -/
def traceStartsUptoRow : OpenClaim := { program := "ytmnnjllimphjhaa", sum := "6b0d4d83949672d570cb202c38cca4a60941c80f7e2f2835a81519271e143f3d", func := "estoppel/estoppellaw14.TraceStarts", spec := "traceStarts", unfollowed := true, recurses := true, apart := false, narrowed := true }
def TraceStartsUptoSaid : Prop := traceStartsUptoRow.holds Try.pinned (OpenSpec.upto traceStartsSpec)

/-- 'estoppellaw14.TraceHolders', WHERE WHAT IT READS IS OF BULK AT MOST 1048576: true; the input reads as it did. -/
def traceHoldersUptoRow : OpenClaim := { program := "ytmnnjllimphjhaa", sum := "6b0d4d83949672d570cb202c38cca4a60941c80f7e2f2835a81519271e143f3d", func := "estoppel/estoppellaw14.TraceHolders", spec := "traceHolders", unfollowed := true, recurses := true, apart := false, narrowed := true }
def TraceHoldersUptoSaid : Prop := traceHoldersUptoRow.holds Try.pinned (OpenSpec.upto traceHoldersSpec)

/-- 'estoppellaw14.TraceEnds', WHERE WHAT IT READS IS OF BULK AT MOST 1048576: true; the input reads as it did. -/
def traceEndsUptoRow : OpenClaim := { program := "ytmnnjllimphjhaa", sum := "6b0d4d83949672d570cb202c38cca4a60941c80f7e2f2835a81519271e143f3d", func := "estoppel/estoppellaw14.TraceEnds", spec := "traceEnds", unfollowed := true, recurses := true, apart := false, narrowed := true }
def TraceEndsUptoSaid : Prop := traceEndsUptoRow.holds Try.pinned (OpenSpec.upto traceEndsSpec)

/-- 'estoppellaw14.TraceDays', WHERE WHAT IT READS IS OF BULK AT MOST 1048576: true; the input reads as it did. -/
def traceDaysUptoRow : OpenClaim := { program := "ytmnnjllimphjhaa", sum := "6b0d4d83949672d570cb202c38cca4a60941c80f7e2f2835a81519271e143f3d", func := "estoppel/estoppellaw14.TraceDays", spec := "traceDays", unfollowed := true, recurses := true, apart := false, narrowed := true }
def TraceDaysUptoSaid : Prop := traceDaysUptoRow.holds Try.pinned (OpenSpec.upto traceDaysSpec)

/-- 'estoppellaw14.TraceBearers', WHERE WHAT IT READS IS OF BULK AT MOST 1048576: true; the input reads as it did. -/
def traceBearersUptoRow : OpenClaim := { program := "ytmnnjllimphjhaa", sum := "6b0d4d83949672d570cb202c38cca4a60941c80f7e2f2835a81519271e143f3d", func := "estoppel/estoppellaw14.TraceBearers", spec := "traceBearers", unfollowed := true, recurses := true, apart := false, narrowed := true }
def TraceBearersUptoSaid : Prop := traceBearersUptoRow.holds Try.pinned (OpenSpec.upto traceBearersSpec)

/-- 'estoppellaw14.TraceStrangers', WHERE WHAT IT READS IS OF BULK AT MOST 1048576: true; the input reads as it did. -/
def traceStrangersUptoRow : OpenClaim := { program := "ytmnnjllimphjhaa", sum := "6b0d4d83949672d570cb202c38cca4a60941c80f7e2f2835a81519271e143f3d", func := "estoppel/estoppellaw14.TraceStrangers", spec := "traceStrangers", unfollowed := true, recurses := true, apart := false, narrowed := true }
def TraceStrangersUptoSaid : Prop := traceStrangersUptoRow.holds Try.pinned (OpenSpec.upto traceStrangersSpec)

end Rows
end Go.Proofs.Ytmnnjllimphjhaa
