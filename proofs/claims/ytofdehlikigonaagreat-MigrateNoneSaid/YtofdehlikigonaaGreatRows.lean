/-
  No cell of these rows narrows 'for every input' (looked for: loops, veiled, ifaces, maps, wideKeys, modest, calm, conditions, laid).
  DERIVED. THE GIVEN ROWS OF THIS SEAT. 5 by the template 'for every input the law returns true; each argument reads behind the call as it read before'; 0 by the template 'total and deterministic' (their statements: YtofdehlikigonaaGreatTotals.lean).
  GIVEN WITH THE SEED: the statements are not yours to turn. If you find one false, say at which input.
  Laid BY PROGRAM, IN A SANDBOX (cutbox-rows.mjs): the forced cells as the released guide's own fill.sh prints them over the translation 0f7eee2ce41cff22… (all of the seat's roots in one cut). By AI agents, Wed Nov 11 2026. No macro, syntax, notation, axiom, sorry.
-/
import Derived.Test.YtofdehlikigonaaGreatChecked
import GoSem.Claim
import GoSem.ClaimJoined
import GoSem.ClaimMapViews
import Derived.JoinedTies
import Derived.KernelRfl
namespace Go.Proofs.YtofdehlikigonaaGreat
/- THE CELL 'sum', in the pinned program and in every row, IS THE sha256 OF THE DUMP (.gsa) THAT YtofdehlikigonaaGreatProg.lean LOADS. Nothing in Lean hashes anything: it is a label: what it is worth is what the hold of that sum in a sandbox is worth. -/
noncomputable def Tryz.pinned : Pinned := { name := "ytofdehlikigonaagreat", sum := "0f7eee2ce41cff226e28167126e84abaa3abf5f525ca9820b7ea773e6d9309fe", checked := Tryz.checked }
namespace Rows
def none {H : Type} : Left H := { results := [], args := [] }

/-- 'estoppellaw27.MigrateKeeps': WHATEVER THE INPUT: true; the input reads as it did. -/
def migrateKeepsSpec : ChangeSpec := { name := "migrateKeeps", fn := fun _ => fun
  | [d1, d2, d3] => { results := [.lit (.bool true)], args := [d1, d2, d3] }
  | _ => none }
def migrateKeepsRow : OpenClaim := { program := "ytofdehlikigonaagreat", sum := "0f7eee2ce41cff226e28167126e84abaa3abf5f525ca9820b7ea773e6d9309fe", func := "estoppel/estoppellaw27.MigrateKeeps", spec := "migrateKeeps", unfollowed := true, recurses := true, apart := false }
def MigrateKeepsSaid : Prop := migrateKeepsRow.holds Tryz.pinned (OpenSpec.ofChange migrateKeepsSpec)

/-- ITS FALSE NEIGHBOUR: 'it returns false'. Refute it at one input. -/
def migrateKeepsWrong : ChangeSpec := { name := "migrateKeeps", fn := fun _ => fun
  | [d1, d2, d3] => { results := [.lit (.bool false)], args := [d1, d2, d3] }
  | _ => none }
def MigrateKeepsWrongFalsely : Prop := migrateKeepsRow.holds Tryz.pinned (OpenSpec.ofChange migrateKeepsWrong)

/-- 'estoppellaw27.MigrateFails': WHATEVER THE INPUT: true; the input reads as it did. -/
def migrateFailsSpec : ChangeSpec := { name := "migrateFails", fn := fun _ => fun
  | [d1, d2, d3] => { results := [.lit (.bool true)], args := [d1, d2, d3] }
  | _ => none }
def migrateFailsRow : OpenClaim := { program := "ytofdehlikigonaagreat", sum := "0f7eee2ce41cff226e28167126e84abaa3abf5f525ca9820b7ea773e6d9309fe", func := "estoppel/estoppellaw27.MigrateFails", spec := "migrateFails", unfollowed := true, recurses := true, apart := false }
def MigrateFailsSaid : Prop := migrateFailsRow.holds Tryz.pinned (OpenSpec.ofChange migrateFailsSpec)

/-- ITS FALSE NEIGHBOUR: 'it returns false'. Refute it at one input. -/
def migrateFailsWrong : ChangeSpec := { name := "migrateFails", fn := fun _ => fun
  | [d1, d2, d3] => { results := [.lit (.bool false)], args := [d1, d2, d3] }
  | _ => none }
def MigrateFailsWrongFalsely : Prop := migrateFailsRow.holds Tryz.pinned (OpenSpec.ofChange migrateFailsWrong)

/-- 'estoppellaw27.MigrateSpans': WHATEVER THE INPUT: true; the input reads as it did. -/
def migrateSpansSpec : ChangeSpec := { name := "migrateSpans", fn := fun _ => fun
  | [d1, d2, d3, d4] => { results := [.lit (.bool true)], args := [d1, d2, d3, d4] }
  | _ => none }
def migrateSpansRow : OpenClaim := { program := "ytofdehlikigonaagreat", sum := "0f7eee2ce41cff226e28167126e84abaa3abf5f525ca9820b7ea773e6d9309fe", func := "estoppel/estoppellaw27.MigrateSpans", spec := "migrateSpans", unfollowed := true, recurses := true, apart := false }
def MigrateSpansSaid : Prop := migrateSpansRow.holds Tryz.pinned (OpenSpec.ofChange migrateSpansSpec)

/-- ITS FALSE NEIGHBOUR: 'it returns false'. Refute it at one input. -/
def migrateSpansWrong : ChangeSpec := { name := "migrateSpans", fn := fun _ => fun
  | [d1, d2, d3, d4] => { results := [.lit (.bool false)], args := [d1, d2, d3, d4] }
  | _ => none }
def MigrateSpansWrongFalsely : Prop := migrateSpansRow.holds Tryz.pinned (OpenSpec.ofChange migrateSpansWrong)

/-- 'estoppellaw27.MigrateStates': WHATEVER THE INPUT: true; the input reads as it did. -/
def migrateStatesSpec : ChangeSpec := { name := "migrateStates", fn := fun _ => fun
  | [d1, d2, d3] => { results := [.lit (.bool true)], args := [d1, d2, d3] }
  | _ => none }
def migrateStatesRow : OpenClaim := { program := "ytofdehlikigonaagreat", sum := "0f7eee2ce41cff226e28167126e84abaa3abf5f525ca9820b7ea773e6d9309fe", func := "estoppel/estoppellaw27.MigrateStates", spec := "migrateStates", unfollowed := true, recurses := true, apart := false }
def MigrateStatesSaid : Prop := migrateStatesRow.holds Tryz.pinned (OpenSpec.ofChange migrateStatesSpec)

/-- ITS FALSE NEIGHBOUR: 'it returns false'. Refute it at one input. -/
def migrateStatesWrong : ChangeSpec := { name := "migrateStates", fn := fun _ => fun
  | [d1, d2, d3] => { results := [.lit (.bool false)], args := [d1, d2, d3] }
  | _ => none }
def MigrateStatesWrongFalsely : Prop := migrateStatesRow.holds Tryz.pinned (OpenSpec.ofChange migrateStatesWrong)

/-- 'estoppellaw27.MigrateNone': WHATEVER THE INPUT: true; the input reads as it did. -/
def migrateNoneSpec : ChangeSpec := { name := "migrateNone", fn := fun _ => fun
  | [d1, d2, d3] => { results := [.lit (.bool true)], args := [d1, d2, d3] }
  | _ => none }
def migrateNoneRow : OpenClaim := { program := "ytofdehlikigonaagreat", sum := "0f7eee2ce41cff226e28167126e84abaa3abf5f525ca9820b7ea773e6d9309fe", func := "estoppel/estoppellaw27.MigrateNone", spec := "migrateNone", unfollowed := true, recurses := true, apart := false }
def MigrateNoneSaid : Prop := migrateNoneRow.holds Tryz.pinned (OpenSpec.ofChange migrateNoneSpec)

/-- ITS FALSE NEIGHBOUR: 'it returns false'. Refute it at one input. -/
def migrateNoneWrong : ChangeSpec := { name := "migrateNone", fn := fun _ => fun
  | [d1, d2, d3] => { results := [.lit (.bool false)], args := [d1, d2, d3] }
  | _ => none }
def MigrateNoneWrongFalsely : Prop := migrateNoneRow.holds Tryz.pinned (OpenSpec.ofChange migrateNoneWrong)

/- THE SECOND FORM. 'bulk': how many values and letters a reading holds, each counted each time it is reached (what is shared counts as often as it is met; a slice's spare places count too). A statement '..UptoSaid' is the law's where the arguments, and the package variables that the reading takes, are together of bulk at most 1048576: NARROWER than '..Said'. Prove '..Said' where nothing that the law and all that it calls make is longer than what came in: it says more and counts as full. Else prove '..UptoSaid'. A law counts once. -/
mutual
def uptoBulk {H : Type} : DataW H → Nat
  | .lit (.string bytes) => bytes.length + 1
  | .lit _ => 1
  | .nil => 1
  | .ptr d => uptoBulk d + 1
  | .slice elems spare => uptoBulkAll elems + uptoBulkAll spare + 1
  | .agg parts => uptoBulkAll parts + 1
  | .iface _ d => uptoBulk d + 1
  | .map entries => uptoBulkEntries entries + 1
  | .held _ => 1
def uptoBulkAll {H : Type} : List (DataW H) → Nat
  | [] => 0
  | d :: r => uptoBulk d + uptoBulkAll r
def uptoBulkEntries {H : Type} : List (Lit × DataW H) → Nat
  | [] => 0
  | x :: r => uptoBulkEntry x + uptoBulkEntries r
def uptoBulkEntry {H : Type} : Lit × DataW H → Nat
  | (.string bytes, d) => bytes.length + uptoBulk d + 1
  | (_, d) => uptoBulk d + 1
 end
def uptoSmall : (H : Type) → List (DataW H) → Bool := fun _ ds => decide (uptoBulkAll ds ≤ 1048576)
def OpenSpec.upto (s : _root_.Go.ChangeSpec) : _root_.Go.OpenSpec := { _root_.Go.OpenSpec.ofChange s with cond := some uptoSmall }

/-- 'estoppellaw27.MigrateKeeps', WHERE WHAT IT READS IS OF BULK AT MOST 1048576: true; the input reads as it did. -/
def migrateKeepsUptoRow : OpenClaim := { program := "ytofdehlikigonaagreat", sum := "0f7eee2ce41cff226e28167126e84abaa3abf5f525ca9820b7ea773e6d9309fe", func := "estoppel/estoppellaw27.MigrateKeeps", spec := "migrateKeeps", unfollowed := true, recurses := true, apart := false, narrowed := true }
def MigrateKeepsUptoSaid : Prop := migrateKeepsUptoRow.holds Tryz.pinned (OpenSpec.upto migrateKeepsSpec)

/-- 'estoppellaw27.MigrateFails', WHERE WHAT IT READS IS OF BULK AT MOST 1048576: true; the input reads as it did. -/
def migrateFailsUptoRow : OpenClaim := { program := "ytofdehlikigonaagreat", sum := "0f7eee2ce41cff226e28167126e84abaa3abf5f525ca9820b7ea773e6d9309fe", func := "estoppel/estoppellaw27.MigrateFails", spec := "migrateFails", unfollowed := true, recurses := true, apart := false, narrowed := true }
def MigrateFailsUptoSaid : Prop := migrateFailsUptoRow.holds Tryz.pinned (OpenSpec.upto migrateFailsSpec)

/-- 'estoppellaw27.MigrateSpans', WHERE WHAT IT READS IS OF BULK AT MOST 1048576: true; the input reads as it did. -/
def migrateSpansUptoRow : OpenClaim := { program := "ytofdehlikigonaagreat", sum := "0f7eee2ce41cff226e28167126e84abaa3abf5f525ca9820b7ea773e6d9309fe", func := "estoppel/estoppellaw27.MigrateSpans", spec := "migrateSpans", unfollowed := true, recurses := true, apart := false, narrowed := true }
def MigrateSpansUptoSaid : Prop := migrateSpansUptoRow.holds Tryz.pinned (OpenSpec.upto migrateSpansSpec)

/-- 'estoppellaw27.MigrateStates', WHERE WHAT IT READS IS OF BULK AT MOST 1048576: true; the input reads as it did. -/
def migrateStatesUptoRow : OpenClaim := { program := "ytofdehlikigonaagreat", sum := "0f7eee2ce41cff226e28167126e84abaa3abf5f525ca9820b7ea773e6d9309fe", func := "estoppel/estoppellaw27.MigrateStates", spec := "migrateStates", unfollowed := true, recurses := true, apart := false, narrowed := true }
def MigrateStatesUptoSaid : Prop := migrateStatesUptoRow.holds Tryz.pinned (OpenSpec.upto migrateStatesSpec)

/-- 'estoppellaw27.MigrateNone', WHERE WHAT IT READS IS OF BULK AT MOST 1048576: true; the input reads as it did. -/
def migrateNoneUptoRow : OpenClaim := { program := "ytofdehlikigonaagreat", sum := "0f7eee2ce41cff226e28167126e84abaa3abf5f525ca9820b7ea773e6d9309fe", func := "estoppel/estoppellaw27.MigrateNone", spec := "migrateNone", unfollowed := true, recurses := true, apart := false, narrowed := true }
def MigrateNoneUptoSaid : Prop := migrateNoneUptoRow.holds Tryz.pinned (OpenSpec.upto migrateNoneSpec)

end Rows
end Go.Proofs.YtofdehlikigonaaGreat
