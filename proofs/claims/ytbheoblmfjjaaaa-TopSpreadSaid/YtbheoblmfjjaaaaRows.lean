/-
  No cell of these rows narrows 'for every input' (looked for: loops, veiled, ifaces, maps, wideKeys, modest, calm, conditions, laid).
  DERIVED. THE GIVEN ROWS OF THIS SEAT. 12 by the template 'for every input the law returns true; each argument reads behind the call as it read before'; 0 by the template 'total and deterministic' (their statements: YtbheoblmfjjaaaaTotals.lean).
  GIVEN WITH THE SEED: the statements are not yours to turn. If you find one false, say at which input.
  Laid BY PROGRAM, IN A SANDBOX (cutbox-rows.mjs): the forced cells as the released guide's own fill.sh prints them over the translation 09dd0b2817b4d92a… (all of the seat's roots in one cut). By AI agents, Wed Nov 11 2026. No macro, syntax, notation, axiom, sorry.
-/
import Derived.Test.YtbheoblmfjjaaaaChecked
import GoSem.Claim
import GoSem.ClaimJoined
import GoSem.ClaimMapViews
import Derived.JoinedTies
import Derived.KernelRfl
namespace Go.Proofs.Ytbheoblmfjjaaaa
/- THE CELL 'sum', in the pinned program and in every row, IS THE sha256 OF THE DUMP (.gsa) THAT YtbheoblmfjjaaaaProg.lean LOADS. Nothing in Lean hashes anything: it is a label: what it is worth is what the hold of that sum in a sandbox is worth. -/
noncomputable def Try.pinned : Pinned := { name := "ytbheoblmfjjaaaa", sum := "09dd0b2817b4d92a499a9e0dbeed93d91222eb5976faac8b3d7dd7c8928c8806", checked := Try.checked }
namespace Rows
def none {H : Type} : Left H := { results := [], args := [] }

/-- 'estoppeltop.TopSpread': WHATEVER THE INPUT: true; the input reads as it did. -/
def topSpreadSpec : ChangeSpec := { name := "topSpread", fn := fun _ => fun
  | [d1, d2, d3] => { results := [.lit (.bool true)], args := [d1, d2, d3] }
  | _ => none }
def topSpreadRow : OpenClaim := { program := "ytbheoblmfjjaaaa", sum := "09dd0b2817b4d92a499a9e0dbeed93d91222eb5976faac8b3d7dd7c8928c8806", func := "estoppel/estoppeltop.TopSpread", spec := "topSpread", unfollowed := true, recurses := true, apart := false }
def TopSpreadSaid : Prop := topSpreadRow.holds Try.pinned (OpenSpec.ofChange topSpreadSpec)

/-- ITS FALSE NEIGHBOUR: 'it returns false'. Refute it at one input. -/
def topSpreadWrong : ChangeSpec := { name := "topSpread", fn := fun _ => fun
  | [d1, d2, d3] => { results := [.lit (.bool false)], args := [d1, d2, d3] }
  | _ => none }
def TopSpreadWrongFalsely : Prop := topSpreadRow.holds Try.pinned (OpenSpec.ofChange topSpreadWrong)

/-- 'estoppellaw15.SystemStates': WHATEVER THE INPUT: true; the input reads as it did. -/
def systemStatesSpec : ChangeSpec := { name := "systemStates", fn := fun _ => fun
  | [d1, d2, d3] => { results := [.lit (.bool true)], args := [d1, d2, d3] }
  | _ => none }
def systemStatesRow : OpenClaim := { program := "ytbheoblmfjjaaaa", sum := "09dd0b2817b4d92a499a9e0dbeed93d91222eb5976faac8b3d7dd7c8928c8806", func := "estoppel/estoppellaw15.SystemStates", spec := "systemStates", unfollowed := true, recurses := true, apart := false }
def SystemStatesSaid : Prop := systemStatesRow.holds Try.pinned (OpenSpec.ofChange systemStatesSpec)

/-- ITS FALSE NEIGHBOUR: 'it returns false'. Refute it at one input. -/
def systemStatesWrong : ChangeSpec := { name := "systemStates", fn := fun _ => fun
  | [d1, d2, d3] => { results := [.lit (.bool false)], args := [d1, d2, d3] }
  | _ => none }
def SystemStatesWrongFalsely : Prop := systemStatesRow.holds Try.pinned (OpenSpec.ofChange systemStatesWrong)

/-- 'estoppellaw15.SystemNoReturn': WHATEVER THE INPUT: true; the input reads as it did. -/
def systemNoReturnSpec : ChangeSpec := { name := "systemNoReturn", fn := fun _ => fun
  | [d1, d2, d3] => { results := [.lit (.bool true)], args := [d1, d2, d3] }
  | _ => none }
def systemNoReturnRow : OpenClaim := { program := "ytbheoblmfjjaaaa", sum := "09dd0b2817b4d92a499a9e0dbeed93d91222eb5976faac8b3d7dd7c8928c8806", func := "estoppel/estoppellaw15.SystemNoReturn", spec := "systemNoReturn", unfollowed := true, recurses := true, apart := false }
def SystemNoReturnSaid : Prop := systemNoReturnRow.holds Try.pinned (OpenSpec.ofChange systemNoReturnSpec)

/-- ITS FALSE NEIGHBOUR: 'it returns false'. Refute it at one input. -/
def systemNoReturnWrong : ChangeSpec := { name := "systemNoReturn", fn := fun _ => fun
  | [d1, d2, d3] => { results := [.lit (.bool false)], args := [d1, d2, d3] }
  | _ => none }
def SystemNoReturnWrongFalsely : Prop := systemNoReturnRow.holds Try.pinned (OpenSpec.ofChange systemNoReturnWrong)

/-- 'estoppellaw15.SystemStarts': WHATEVER THE INPUT: true; the input reads as it did. -/
def systemStartsSpec : ChangeSpec := { name := "systemStarts", fn := fun _ => fun
  | [d1, d2, d3] => { results := [.lit (.bool true)], args := [d1, d2, d3] }
  | _ => none }
def systemStartsRow : OpenClaim := { program := "ytbheoblmfjjaaaa", sum := "09dd0b2817b4d92a499a9e0dbeed93d91222eb5976faac8b3d7dd7c8928c8806", func := "estoppel/estoppellaw15.SystemStarts", spec := "systemStarts", unfollowed := true, recurses := true, apart := false }
def SystemStartsSaid : Prop := systemStartsRow.holds Try.pinned (OpenSpec.ofChange systemStartsSpec)

/-- ITS FALSE NEIGHBOUR: 'it returns false'. Refute it at one input. -/
def systemStartsWrong : ChangeSpec := { name := "systemStarts", fn := fun _ => fun
  | [d1, d2, d3] => { results := [.lit (.bool false)], args := [d1, d2, d3] }
  | _ => none }
def SystemStartsWrongFalsely : Prop := systemStartsRow.holds Try.pinned (OpenSpec.ofChange systemStartsWrong)

/-- 'estoppellaw15.SystemBreach': WHATEVER THE INPUT: true; the input reads as it did. -/
def systemBreachSpec : ChangeSpec := { name := "systemBreach", fn := fun _ => fun
  | [d1, d2, d3, d4] => { results := [.lit (.bool true)], args := [d1, d2, d3, d4] }
  | _ => none }
def systemBreachRow : OpenClaim := { program := "ytbheoblmfjjaaaa", sum := "09dd0b2817b4d92a499a9e0dbeed93d91222eb5976faac8b3d7dd7c8928c8806", func := "estoppel/estoppellaw15.SystemBreach", spec := "systemBreach", unfollowed := true, recurses := true, apart := false }
def SystemBreachSaid : Prop := systemBreachRow.holds Try.pinned (OpenSpec.ofChange systemBreachSpec)

/-- ITS FALSE NEIGHBOUR: 'it returns false'. Refute it at one input. -/
def systemBreachWrong : ChangeSpec := { name := "systemBreach", fn := fun _ => fun
  | [d1, d2, d3, d4] => { results := [.lit (.bool false)], args := [d1, d2, d3, d4] }
  | _ => none }
def SystemBreachWrongFalsely : Prop := systemBreachRow.holds Try.pinned (OpenSpec.ofChange systemBreachWrong)

/-- 'estoppellaw15.SystemActs': WHATEVER THE INPUT: true; the input reads as it did. -/
def systemActsSpec : ChangeSpec := { name := "systemActs", fn := fun _ => fun
  | [d1, d2, d3] => { results := [.lit (.bool true)], args := [d1, d2, d3] }
  | _ => none }
def systemActsRow : OpenClaim := { program := "ytbheoblmfjjaaaa", sum := "09dd0b2817b4d92a499a9e0dbeed93d91222eb5976faac8b3d7dd7c8928c8806", func := "estoppel/estoppellaw15.SystemActs", spec := "systemActs", unfollowed := true, recurses := true, apart := false }
def SystemActsSaid : Prop := systemActsRow.holds Try.pinned (OpenSpec.ofChange systemActsSpec)

/-- ITS FALSE NEIGHBOUR: 'it returns false'. Refute it at one input. -/
def systemActsWrong : ChangeSpec := { name := "systemActs", fn := fun _ => fun
  | [d1, d2, d3] => { results := [.lit (.bool false)], args := [d1, d2, d3] }
  | _ => none }
def SystemActsWrongFalsely : Prop := systemActsRow.holds Try.pinned (OpenSpec.ofChange systemActsWrong)

/-- 'estoppellaw15.SystemTicks': WHATEVER THE INPUT: true; the input reads as it did. -/
def systemTicksSpec : ChangeSpec := { name := "systemTicks", fn := fun _ => fun
  | [d1, d2] => { results := [.lit (.bool true)], args := [d1, d2] }
  | _ => none }
def systemTicksRow : OpenClaim := { program := "ytbheoblmfjjaaaa", sum := "09dd0b2817b4d92a499a9e0dbeed93d91222eb5976faac8b3d7dd7c8928c8806", func := "estoppel/estoppellaw15.SystemTicks", spec := "systemTicks", unfollowed := true, recurses := true, apart := false }
def SystemTicksSaid : Prop := systemTicksRow.holds Try.pinned (OpenSpec.ofChange systemTicksSpec)

/-- ITS FALSE NEIGHBOUR: 'it returns false'. Refute it at one input. -/
def systemTicksWrong : ChangeSpec := { name := "systemTicks", fn := fun _ => fun
  | [d1, d2] => { results := [.lit (.bool false)], args := [d1, d2] }
  | _ => none }
def SystemTicksWrongFalsely : Prop := systemTicksRow.holds Try.pinned (OpenSpec.ofChange systemTicksWrong)

/-- 'estoppellaw36.ProjectAll': WHATEVER THE INPUT: true; the input reads as it did. -/
def projectAllSpec : ChangeSpec := { name := "projectAll", fn := fun _ => fun
  | [d1, d2, d3] => { results := [.lit (.bool true)], args := [d1, d2, d3] }
  | _ => none }
def projectAllRow : OpenClaim := { program := "ytbheoblmfjjaaaa", sum := "09dd0b2817b4d92a499a9e0dbeed93d91222eb5976faac8b3d7dd7c8928c8806", func := "estoppel/estoppellaw36.ProjectAll", spec := "projectAll", unfollowed := true, recurses := true, apart := false }
def ProjectAllSaid : Prop := projectAllRow.holds Try.pinned (OpenSpec.ofChange projectAllSpec)

/-- ITS FALSE NEIGHBOUR: 'it returns false'. Refute it at one input. -/
def projectAllWrong : ChangeSpec := { name := "projectAll", fn := fun _ => fun
  | [d1, d2, d3] => { results := [.lit (.bool false)], args := [d1, d2, d3] }
  | _ => none }
def ProjectAllWrongFalsely : Prop := projectAllRow.holds Try.pinned (OpenSpec.ofChange projectAllWrong)

/-- 'estoppellaw36.ProjectBeginnings': WHATEVER THE INPUT: true; the input reads as it did. -/
def projectBeginningsSpec : ChangeSpec := { name := "projectBeginnings", fn := fun _ => fun
  | [d1, d2, d3, d4] => { results := [.lit (.bool true)], args := [d1, d2, d3, d4] }
  | _ => none }
def projectBeginningsRow : OpenClaim := { program := "ytbheoblmfjjaaaa", sum := "09dd0b2817b4d92a499a9e0dbeed93d91222eb5976faac8b3d7dd7c8928c8806", func := "estoppel/estoppellaw36.ProjectBeginnings", spec := "projectBeginnings", unfollowed := true, recurses := true, apart := false }
def ProjectBeginningsSaid : Prop := projectBeginningsRow.holds Try.pinned (OpenSpec.ofChange projectBeginningsSpec)

/-- ITS FALSE NEIGHBOUR: 'it returns false'. Refute it at one input. -/
def projectBeginningsWrong : ChangeSpec := { name := "projectBeginnings", fn := fun _ => fun
  | [d1, d2, d3, d4] => { results := [.lit (.bool false)], args := [d1, d2, d3, d4] }
  | _ => none }
def ProjectBeginningsWrongFalsely : Prop := projectBeginningsRow.holds Try.pinned (OpenSpec.ofChange projectBeginningsWrong)

/-- 'estoppellaw36.ProjectOwn': WHATEVER THE INPUT: true; the input reads as it did. -/
def projectOwnSpec : ChangeSpec := { name := "projectOwn", fn := fun _ => fun
  | [d1, d2, d3] => { results := [.lit (.bool true)], args := [d1, d2, d3] }
  | _ => none }
def projectOwnRow : OpenClaim := { program := "ytbheoblmfjjaaaa", sum := "09dd0b2817b4d92a499a9e0dbeed93d91222eb5976faac8b3d7dd7c8928c8806", func := "estoppel/estoppellaw36.ProjectOwn", spec := "projectOwn", unfollowed := true, recurses := true, apart := false }
def ProjectOwnSaid : Prop := projectOwnRow.holds Try.pinned (OpenSpec.ofChange projectOwnSpec)

/-- ITS FALSE NEIGHBOUR: 'it returns false'. Refute it at one input. -/
def projectOwnWrong : ChangeSpec := { name := "projectOwn", fn := fun _ => fun
  | [d1, d2, d3] => { results := [.lit (.bool false)], args := [d1, d2, d3] }
  | _ => none }
def ProjectOwnWrongFalsely : Prop := projectOwnRow.holds Try.pinned (OpenSpec.ofChange projectOwnWrong)

/-- 'estoppellaw36.ProjectPrivate': WHATEVER THE INPUT: true; the input reads as it did. -/
def projectPrivateSpec : ChangeSpec := { name := "projectPrivate", fn := fun _ => fun
  | [d1, d2, d3, d4] => { results := [.lit (.bool true)], args := [d1, d2, d3, d4] }
  | _ => none }
def projectPrivateRow : OpenClaim := { program := "ytbheoblmfjjaaaa", sum := "09dd0b2817b4d92a499a9e0dbeed93d91222eb5976faac8b3d7dd7c8928c8806", func := "estoppel/estoppellaw36.ProjectPrivate", spec := "projectPrivate", unfollowed := true, recurses := true, apart := false }
def ProjectPrivateSaid : Prop := projectPrivateRow.holds Try.pinned (OpenSpec.ofChange projectPrivateSpec)

/-- ITS FALSE NEIGHBOUR: 'it returns false'. Refute it at one input. -/
def projectPrivateWrong : ChangeSpec := { name := "projectPrivate", fn := fun _ => fun
  | [d1, d2, d3, d4] => { results := [.lit (.bool false)], args := [d1, d2, d3, d4] }
  | _ => none }
def ProjectPrivateWrongFalsely : Prop := projectPrivateRow.holds Try.pinned (OpenSpec.ofChange projectPrivateWrong)

/-- 'estoppellaw36.ProjectHidden': WHATEVER THE INPUT: true; the input reads as it did. -/
def projectHiddenSpec : ChangeSpec := { name := "projectHidden", fn := fun _ => fun
  | [d1, d2, d3, d4, d5] => { results := [.lit (.bool true)], args := [d1, d2, d3, d4, d5] }
  | _ => none }
def projectHiddenRow : OpenClaim := { program := "ytbheoblmfjjaaaa", sum := "09dd0b2817b4d92a499a9e0dbeed93d91222eb5976faac8b3d7dd7c8928c8806", func := "estoppel/estoppellaw36.ProjectHidden", spec := "projectHidden", unfollowed := true, recurses := true, apart := false }
def ProjectHiddenSaid : Prop := projectHiddenRow.holds Try.pinned (OpenSpec.ofChange projectHiddenSpec)

/-- ITS FALSE NEIGHBOUR: 'it returns false'. Refute it at one input. -/
def projectHiddenWrong : ChangeSpec := { name := "projectHidden", fn := fun _ => fun
  | [d1, d2, d3, d4, d5] => { results := [.lit (.bool false)], args := [d1, d2, d3, d4, d5] }
  | _ => none }
def ProjectHiddenWrongFalsely : Prop := projectHiddenRow.holds Try.pinned (OpenSpec.ofChange projectHiddenWrong)

/- THE SECOND FORM. 'bulk': how many values and letters a reading holds, each counted each time it is reached (what is shared counts as often as it is met; a slice's spare places count too). A statement '..UptoSaid' is the law's where the arguments, and the package variables that the reading takes, are together of bulk at most 1048576: NARROWER than '..Said'. Prove '..Said' where nothing that the law and all that it calls make is longer than what came in: it says more and counts as full. Else prove '..UptoSaid'. A law counts once. -/
mutual
def uptoBulk {H : Type} : DataW H → Nat
  | .lit (.string bytes) => bytes.length + 1
  | .lit _ => 1
  | .nil => 1
  | .ptr d => uptoBulk d + 1
  | .slice elems spare => uptoBulkAll elems + uptoBulkAll spare + 1
  | .agg parts => uptoBulkAll parts + 1
  | .iface _ d => uptoBulk d + 1
  | .map entries => uptoBulkEntries entries + 1
  | .held _ => 1
def uptoBulkAll {H : Type} : List (DataW H) → Nat
  | [] => 0
  | d :: r => uptoBulk d + uptoBulkAll r
def uptoBulkEntries {H : Type} : List (Lit × DataW H) → Nat
  | [] => 0
  | x :: r => uptoBulkEntry x + uptoBulkEntries r
def uptoBulkEntry {H : Type} : Lit × DataW H → Nat
  | (.string bytes, d) => bytes.length + uptoBulk d + 1
  | (_, d) => uptoBulk d + 1
 end
def uptoSmall : (H : Type) → List (DataW H) → Bool := fun _ ds => decide (uptoBulkAll ds ≤ 1048576)
def OpenSpec.upto (s : _root_.Go.ChangeSpec) : _root_.Go.OpenSpec := { _root_.Go.OpenSpec.ofChange s with cond := some uptoSmall }

/-- 'estoppeltop.TopSpread', WHERE WHAT IT READS IS OF BULK AT MOST 1048576: true; the input reads as it did. -/
def topSpreadUptoRow : OpenClaim := { program := "ytbheoblmfjjaaaa", sum := "09dd0b2817b4d92a499a9e0dbeed93d91222eb5976faac8b3d7dd7c8928c8806", func := "estoppel/estoppeltop.TopSpread", spec := "topSpread", unfollowed := true, recurses := true, apart := false, narrowed := true }
def TopSpreadUptoSaid : Prop := topSpreadUptoRow.holds Try.pinned (OpenSpec.upto topSpreadSpec)

/-- 'estoppellaw15.SystemStates', WHERE WHAT IT READS IS OF BULK AT MOST 1048576: true; the input reads as it did. -/
def systemStatesUptoRow : OpenClaim := { program := "ytbheoblmfjjaaaa", sum := "09dd0b2817b4d92a499a9e0dbeed93d91222eb5976faac8b3d7dd7c8928c8806", func := "estoppel/estoppellaw15.SystemStates", spec := "systemStates", unfollowed := true, recurses := true, apart := false, narrowed := true }
def SystemStatesUptoSaid : Prop := systemStatesUptoRow.holds Try.pinned (OpenSpec.upto systemStatesSpec)

/-- 'estoppellaw15.SystemNoReturn', WHERE WHAT IT READS IS OF BULK AT MOST 1048576: true; the input reads as it did. -/
def systemNoReturnUptoRow : OpenClaim := { program := "ytbheoblmfjjaaaa", sum := "09dd0b2817b4d92a499a9e0dbeed93d91222eb5976faac8b3d7dd7c8928c8806", func := "estoppel/estoppellaw15.SystemNoReturn", spec := "systemNoReturn", unfollowed := true, recurses := true, apart := false, narrowed := true }
def SystemNoReturnUptoSaid : Prop := systemNoReturnUptoRow.holds Try.pinned (OpenSpec.upto systemNoReturnSpec)

/-- 'estoppellaw15.SystemStarts', WHERE WHAT IT READS IS OF BULK AT MOST 1048576: true; the input reads as it did. -/
def systemStartsUptoRow : OpenClaim := { program := "ytbheoblmfjjaaaa", sum := "09dd0b2817b4d92a499a9e0dbeed93d91222eb5976faac8b3d7dd7c8928c8806", func := "estoppel/estoppellaw15.SystemStarts", spec := "systemStarts", unfollowed := true, recurses := true, apart := false, narrowed := true }
def SystemStartsUptoSaid : Prop := systemStartsUptoRow.holds Try.pinned (OpenSpec.upto systemStartsSpec)

/-- 'estoppellaw15.SystemBreach', WHERE WHAT IT READS IS OF BULK AT MOST 1048576: true; the input reads as it did. -/
def systemBreachUptoRow : OpenClaim := { program := "ytbheoblmfjjaaaa", sum := "09dd0b2817b4d92a499a9e0dbeed93d91222eb5976faac8b3d7dd7c8928c8806", func := "estoppel/estoppellaw15.SystemBreach", spec := "systemBreach", unfollowed := true, recurses := true, apart := false, narrowed := true }
def SystemBreachUptoSaid : Prop := systemBreachUptoRow.holds Try.pinned (OpenSpec.upto systemBreachSpec)

/-- 'estoppellaw15.SystemActs', WHERE WHAT IT READS IS OF BULK AT MOST 1048576: true; the input reads as it did. -/
def systemActsUptoRow : OpenClaim := { program := "ytbheoblmfjjaaaa", sum := "09dd0b2817b4d92a499a9e0dbeed93d91222eb5976faac8b3d7dd7c8928c8806", func := "estoppel/estoppellaw15.SystemActs", spec := "systemActs", unfollowed := true, recurses := true, apart := false, narrowed := true }
def SystemActsUptoSaid : Prop := systemActsUptoRow.holds Try.pinned (OpenSpec.upto systemActsSpec)

/-- 'estoppellaw15.SystemTicks', WHERE WHAT IT READS IS OF BULK AT MOST 1048576: true; the input reads as it did. -/
def systemTicksUptoRow : OpenClaim := { program := "ytbheoblmfjjaaaa", sum := "09dd0b2817b4d92a499a9e0dbeed93d91222eb5976faac8b3d7dd7c8928c8806", func := "estoppel/estoppellaw15.SystemTicks", spec := "systemTicks", unfollowed := true, recurses := true, apart := false, narrowed := true }
def SystemTicksUptoSaid : Prop := systemTicksUptoRow.holds Try.pinned (OpenSpec.upto systemTicksSpec)

/-- 'estoppellaw36.ProjectAll', WHERE WHAT IT READS IS OF BULK AT MOST 1048576: true; the input reads as it did. -/
def projectAllUptoRow : OpenClaim := { program := "ytbheoblmfjjaaaa", sum := "09dd0b2817b4d92a499a9e0dbeed93d91222eb5976faac8b3d7dd7c8928c8806", func := "estoppel/estoppellaw36.ProjectAll", spec := "projectAll", unfollowed := true, recurses := true, apart := false, narrowed := true }
def ProjectAllUptoSaid : Prop := projectAllUptoRow.holds Try.pinned (OpenSpec.upto projectAllSpec)

/-- 'estoppellaw36.ProjectBeginnings', WHERE WHAT IT READS IS OF BULK AT MOST 1048576: true; the input reads as it did. -/
def projectBeginningsUptoRow : OpenClaim := { program := "ytbheoblmfjjaaaa", sum := "09dd0b2817b4d92a499a9e0dbeed93d91222eb5976faac8b3d7dd7c8928c8806", func := "estoppel/estoppellaw36.ProjectBeginnings", spec := "projectBeginnings", unfollowed := true, recurses := true, apart := false, narrowed := true }
def ProjectBeginningsUptoSaid : Prop := projectBeginningsUptoRow.holds Try.pinned (OpenSpec.upto projectBeginningsSpec)

/-- 'estoppellaw36.ProjectOwn', WHERE WHAT IT READS IS OF BULK AT MOST 1048576: true; the input reads as it did. -/
def projectOwnUptoRow : OpenClaim := { program := "ytbheoblmfjjaaaa", sum := "09dd0b2817b4d92a499a9e0dbeed93d91222eb5976faac8b3d7dd7c8928c8806", func := "estoppel/estoppellaw36.ProjectOwn", spec := "projectOwn", unfollowed := true, recurses := true, apart := false, narrowed := true }
def ProjectOwnUptoSaid : Prop := projectOwnUptoRow.holds Try.pinned (OpenSpec.upto projectOwnSpec)

/-- 'estoppellaw36.ProjectPrivate', WHERE WHAT IT READS IS OF BULK AT MOST 1048576: true; the input reads as it did. -/
def projectPrivateUptoRow : OpenClaim := { program := "ytbheoblmfjjaaaa", sum := "09dd0b2817b4d92a499a9e0dbeed93d91222eb5976faac8b3d7dd7c8928c8806", func := "estoppel/estoppellaw36.ProjectPrivate", spec := "projectPrivate", unfollowed := true, recurses := true, apart := false, narrowed := true }
def ProjectPrivateUptoSaid : Prop := projectPrivateUptoRow.holds Try.pinned (OpenSpec.upto projectPrivateSpec)

/-- 'estoppellaw36.ProjectHidden', WHERE WHAT IT READS IS OF BULK AT MOST 1048576: true; the input reads as it did. -/
def projectHiddenUptoRow : OpenClaim := { program := "ytbheoblmfjjaaaa", sum := "09dd0b2817b4d92a499a9e0dbeed93d91222eb5976faac8b3d7dd7c8928c8806", func := "estoppel/estoppellaw36.ProjectHidden", spec := "projectHidden", unfollowed := true, recurses := true, apart := false, narrowed := true }
def ProjectHiddenUptoSaid : Prop := projectHiddenUptoRow.holds Try.pinned (OpenSpec.upto projectHiddenSpec)

end Rows
end Go.Proofs.Ytbheoblmfjjaaaa
