/-
  No cell of these rows narrows 'for every input' (looked for: loops, veiled, ifaces, maps, wideKeys, modest, calm, conditions, laid).
  DERIVED. THE GIVEN ROWS OF THIS SEAT. 8 by the template 'for every input the law returns true; each argument reads behind the call as it read before'; 0 by the template 'total and deterministic' (their statements: YtoeghbhlklnajaaTotals.lean).
  GIVEN WITH THE SEED: the statements are not yours to turn. If you find one false, say at which input.
  Laid BY PROGRAM, IN A SANDBOX (cutbox-rows.mjs): the forced cells as the released guide's own fill.sh prints them over the translation 8d60030b251d21f3… (all of the seat's roots in one cut). By AI agents, Wed Nov 11 2026. No macro, syntax, notation, axiom, sorry.
-/
import Derived.Test.YtoeghbhlklnajaaChecked
import GoSem.Claim
import GoSem.ClaimJoined
import GoSem.ClaimMapViews
import Derived.JoinedTies
import Derived.KernelRfl
namespace Go.Proofs.Ytoeghbhlklnajaa
/- THE CELL 'sum', in the pinned program and in every row, IS THE sha256 OF THE DUMP (.gsa) THAT YtoeghbhlklnajaaProg.lean LOADS. Nothing in Lean hashes anything: it is a label: what it is worth is what the hold of that sum in a sandbox is worth. -/
noncomputable def Try.pinned : Pinned := { name := "ytoeghbhlklnajaa", sum := "8d60030b251d21f331375bcdfdff860fac9fa0a62f3d9cddd0c226ec95219c5f", checked := Try.checked }
namespace Rows
def none {H : Type} : Left H := { results := [], args := [] }

/-- 'estoppellaw04.QuantityMatchesReference': WHATEVER THE INPUT: true; the input reads as it did. -/
def quantityMatchesReferenceSpec : ChangeSpec := { name := "quantityMatchesReference", fn := fun _ => fun
  | [d1, d2, d3, d4, d5] => { results := [.lit (.bool true)], args := [d1, d2, d3, d4, d5] }
  | _ => none }
def quantityMatchesReferenceRow : OpenClaim := { program := "ytoeghbhlklnajaa", sum := "8d60030b251d21f331375bcdfdff860fac9fa0a62f3d9cddd0c226ec95219c5f", func := "estoppel/estoppellaw04.QuantityMatchesReference", spec := "quantityMatchesReference", unfollowed := true, recurses := true, apart := false }
def QuantityMatchesReferenceSaid : Prop := quantityMatchesReferenceRow.holds Try.pinned (OpenSpec.ofChange quantityMatchesReferenceSpec)

/-- ITS FALSE NEIGHBOUR: 'it returns false'. Refute it at one input. -/
def quantityMatchesReferenceWrong : ChangeSpec := { name := "quantityMatchesReference", fn := fun _ => fun
  | [d1, d2, d3, d4, d5] => { results := [.lit (.bool false)], args := [d1, d2, d3, d4, d5] }
  | _ => none }
def QuantityMatchesReferenceWrongFalsely : Prop := quantityMatchesReferenceRow.holds Try.pinned (OpenSpec.ofChange quantityMatchesReferenceWrong)

/-- 'estoppellaw04.QuantityTables': WHATEVER THE INPUT: true; the input reads as it did. -/
def quantityTablesSpec : ChangeSpec := { name := "quantityTables", fn := fun _ => fun
  | [d1, d2, d3] => { results := [.lit (.bool true)], args := [d1, d2, d3] }
  | _ => none }
def quantityTablesRow : OpenClaim := { program := "ytoeghbhlklnajaa", sum := "8d60030b251d21f331375bcdfdff860fac9fa0a62f3d9cddd0c226ec95219c5f", func := "estoppel/estoppellaw04.QuantityTables", spec := "quantityTables", unfollowed := true, recurses := true, apart := false }
def QuantityTablesSaid : Prop := quantityTablesRow.holds Try.pinned (OpenSpec.ofChange quantityTablesSpec)

/-- ITS FALSE NEIGHBOUR: 'it returns false'. Refute it at one input. -/
def quantityTablesWrong : ChangeSpec := { name := "quantityTables", fn := fun _ => fun
  | [d1, d2, d3] => { results := [.lit (.bool false)], args := [d1, d2, d3] }
  | _ => none }
def QuantityTablesWrongFalsely : Prop := quantityTablesRow.holds Try.pinned (OpenSpec.ofChange quantityTablesWrong)

/-- 'estoppellaw04.QuantityBack': WHATEVER THE INPUT: true; the input reads as it did. -/
def quantityBackSpec : ChangeSpec := { name := "quantityBack", fn := fun _ => fun
  | [d1, d2, d3] => { results := [.lit (.bool true)], args := [d1, d2, d3] }
  | _ => none }
def quantityBackRow : OpenClaim := { program := "ytoeghbhlklnajaa", sum := "8d60030b251d21f331375bcdfdff860fac9fa0a62f3d9cddd0c226ec95219c5f", func := "estoppel/estoppellaw04.QuantityBack", spec := "quantityBack", unfollowed := true, recurses := true, apart := false }
def QuantityBackSaid : Prop := quantityBackRow.holds Try.pinned (OpenSpec.ofChange quantityBackSpec)

/-- ITS FALSE NEIGHBOUR: 'it returns false'. Refute it at one input. -/
def quantityBackWrong : ChangeSpec := { name := "quantityBack", fn := fun _ => fun
  | [d1, d2, d3] => { results := [.lit (.bool false)], args := [d1, d2, d3] }
  | _ => none }
def QuantityBackWrongFalsely : Prop := quantityBackRow.holds Try.pinned (OpenSpec.ofChange quantityBackWrong)

/-- 'estoppellaw04.QuantityWay': WHATEVER THE INPUT: true; the input reads as it did. -/
def quantityWaySpec : ChangeSpec := { name := "quantityWay", fn := fun _ => fun
  | [d1, d2, d3, d4] => { results := [.lit (.bool true)], args := [d1, d2, d3, d4] }
  | _ => none }
def quantityWayRow : OpenClaim := { program := "ytoeghbhlklnajaa", sum := "8d60030b251d21f331375bcdfdff860fac9fa0a62f3d9cddd0c226ec95219c5f", func := "estoppel/estoppellaw04.QuantityWay", spec := "quantityWay", unfollowed := true, recurses := true, apart := false }
def QuantityWaySaid : Prop := quantityWayRow.holds Try.pinned (OpenSpec.ofChange quantityWaySpec)

/-- ITS FALSE NEIGHBOUR: 'it returns false'. Refute it at one input. -/
def quantityWayWrong : ChangeSpec := { name := "quantityWay", fn := fun _ => fun
  | [d1, d2, d3, d4] => { results := [.lit (.bool false)], args := [d1, d2, d3, d4] }
  | _ => none }
def QuantityWayWrongFalsely : Prop := quantityWayRow.holds Try.pinned (OpenSpec.ofChange quantityWayWrong)

/-- 'estoppellaw04.QuantityLinear': WHATEVER THE INPUT: true; the input reads as it did. -/
def quantityLinearSpec : ChangeSpec := { name := "quantityLinear", fn := fun _ => fun
  | [d1, d2, d3, d4, d5] => { results := [.lit (.bool true)], args := [d1, d2, d3, d4, d5] }
  | _ => none }
def quantityLinearRow : OpenClaim := { program := "ytoeghbhlklnajaa", sum := "8d60030b251d21f331375bcdfdff860fac9fa0a62f3d9cddd0c226ec95219c5f", func := "estoppel/estoppellaw04.QuantityLinear", spec := "quantityLinear", unfollowed := true, recurses := true, apart := false }
def QuantityLinearSaid : Prop := quantityLinearRow.holds Try.pinned (OpenSpec.ofChange quantityLinearSpec)

/-- ITS FALSE NEIGHBOUR: 'it returns false'. Refute it at one input. -/
def quantityLinearWrong : ChangeSpec := { name := "quantityLinear", fn := fun _ => fun
  | [d1, d2, d3, d4, d5] => { results := [.lit (.bool false)], args := [d1, d2, d3, d4, d5] }
  | _ => none }
def QuantityLinearWrongFalsely : Prop := quantityLinearRow.holds Try.pinned (OpenSpec.ofChange quantityLinearWrong)

/-- 'estoppellaw04.QuantitySums': WHATEVER THE INPUT: true; the input reads as it did. -/
def quantitySumsSpec : ChangeSpec := { name := "quantitySums", fn := fun _ => fun
  | [d1, d2, d3, d4] => { results := [.lit (.bool true)], args := [d1, d2, d3, d4] }
  | _ => none }
def quantitySumsRow : OpenClaim := { program := "ytoeghbhlklnajaa", sum := "8d60030b251d21f331375bcdfdff860fac9fa0a62f3d9cddd0c226ec95219c5f", func := "estoppel/estoppellaw04.QuantitySums", spec := "quantitySums", unfollowed := true, recurses := true, apart := false }
def QuantitySumsSaid : Prop := quantitySumsRow.holds Try.pinned (OpenSpec.ofChange quantitySumsSpec)

/-- ITS FALSE NEIGHBOUR: 'it returns false'. Refute it at one input. -/
def quantitySumsWrong : ChangeSpec := { name := "quantitySums", fn := fun _ => fun
  | [d1, d2, d3, d4] => { results := [.lit (.bool false)], args := [d1, d2, d3, d4] }
  | _ => none }
def QuantitySumsWrongFalsely : Prop := quantitySumsRow.holds Try.pinned (OpenSpec.ofChange quantitySumsWrong)

/-- 'estoppellaw04.QuantityBaskets': WHATEVER THE INPUT: true; the input reads as it did. -/
def quantityBasketsSpec : ChangeSpec := { name := "quantityBaskets", fn := fun _ => fun
  | [d1, d2, d3, d4] => { results := [.lit (.bool true)], args := [d1, d2, d3, d4] }
  | _ => none }
def quantityBasketsRow : OpenClaim := { program := "ytoeghbhlklnajaa", sum := "8d60030b251d21f331375bcdfdff860fac9fa0a62f3d9cddd0c226ec95219c5f", func := "estoppel/estoppellaw04.QuantityBaskets", spec := "quantityBaskets", unfollowed := true, recurses := true, apart := false }
def QuantityBasketsSaid : Prop := quantityBasketsRow.holds Try.pinned (OpenSpec.ofChange quantityBasketsSpec)

/-- ITS FALSE NEIGHBOUR: 'it returns false'. Refute it at one input. -/
def quantityBasketsWrong : ChangeSpec := { name := "quantityBaskets", fn := fun _ => fun
  | [d1, d2, d3, d4] => { results := [.lit (.bool false)], args := [d1, d2, d3, d4] }
  | _ => none }
def QuantityBasketsWrongFalsely : Prop := quantityBasketsRow.holds Try.pinned (OpenSpec.ofChange quantityBasketsWrong)

/-- 'estoppellaw04.QuantityCovers': WHATEVER THE INPUT: true; the input reads as it did. -/
def quantityCoversSpec : ChangeSpec := { name := "quantityCovers", fn := fun _ => fun
  | [d1, d2, d3, d4] => { results := [.lit (.bool true)], args := [d1, d2, d3, d4] }
  | _ => none }
def quantityCoversRow : OpenClaim := { program := "ytoeghbhlklnajaa", sum := "8d60030b251d21f331375bcdfdff860fac9fa0a62f3d9cddd0c226ec95219c5f", func := "estoppel/estoppellaw04.QuantityCovers", spec := "quantityCovers", unfollowed := true, recurses := true, apart := false }
def QuantityCoversSaid : Prop := quantityCoversRow.holds Try.pinned (OpenSpec.ofChange quantityCoversSpec)

/-- ITS FALSE NEIGHBOUR: 'it returns false'. Refute it at one input. -/
def quantityCoversWrong : ChangeSpec := { name := "quantityCovers", fn := fun _ => fun
  | [d1, d2, d3, d4] => { results := [.lit (.bool false)], args := [d1, d2, d3, d4] }
  | _ => none }
def QuantityCoversWrongFalsely : Prop := quantityCoversRow.holds Try.pinned (OpenSpec.ofChange quantityCoversWrong)

/- THE SECOND FORM. 'bulk': how many values and letters a reading holds, each counted each time it is reached (what is shared counts as often as it is met; a slice's spare places count too). A statement '..UptoSaid' is the law's where the arguments, and the package variables that the reading takes, are together of bulk at most 1048576: NARROWER than '..Said'. Prove '..Said' where nothing that the law and all that it calls make is longer than what came in: it says more and counts as full. Else prove '..UptoSaid'. A law counts once. -/
mutual
def uptoBulk {H : Type} : DataW H → Nat
  | .lit (.string bytes) => bytes.length + 1
  | .lit _ => 1
  | .nil => 1
  | .ptr d => uptoBulk d + 1
  | .slice elems spare => uptoBulkAll elems + uptoBulkAll spare + 1
  | .agg parts => uptoBulkAll parts + 1
  | .iface _ d => uptoBulk d + 1
  | .map entries => uptoBulkEntries entries + 1
  | .held _ => 1
def uptoBulkAll {H : Type} : List (DataW H) → Nat
  | [] => 0
  | d :: r => uptoBulk d + uptoBulkAll r
def uptoBulkEntries {H : Type} : List (Lit × DataW H) → Nat
  | [] => 0
  | x :: r => uptoBulkEntry x + uptoBulkEntries r
def uptoBulkEntry {H : Type} : Lit × DataW H → Nat
  | (.string bytes, d) => bytes.length + uptoBulk d + 1
  | (_, d) => uptoBulk d + 1
 end
def uptoSmall : (H : Type) → List (DataW H) → Bool := fun _ ds => decide (uptoBulkAll ds ≤ 1048576)
def OpenSpec.upto (s : _root_.Go.ChangeSpec) : _root_.Go.OpenSpec := { _root_.Go.OpenSpec.ofChange s with cond := some uptoSmall }

/-- 'estoppellaw04.QuantityMatchesReference', WHERE WHAT IT READS IS OF BULK AT MOST 1048576: true; the input reads as it did. -/
def quantityMatchesReferenceUptoRow : OpenClaim := { program := "ytoeghbhlklnajaa", sum := "8d60030b251d21f331375bcdfdff860fac9fa0a62f3d9cddd0c226ec95219c5f", func := "estoppel/estoppellaw04.QuantityMatchesReference", spec := "quantityMatchesReference", unfollowed := true, recurses := true, apart := false, narrowed := true }
def QuantityMatchesReferenceUptoSaid : Prop := quantityMatchesReferenceUptoRow.holds Try.pinned (OpenSpec.upto quantityMatchesReferenceSpec)

/-- 'estoppellaw04.QuantityTables', WHERE WHAT IT READS IS OF BULK AT MOST 1048576: true; the input reads as it did. -/
def quantityTablesUptoRow : OpenClaim := { program := "ytoeghbhlklnajaa", sum := "8d60030b251d21f331375bcdfdff860fac9fa0a62f3d9cddd0c226ec95219c5f", func := "estoppel/estoppellaw04.QuantityTables", spec := "quantityTables", unfollowed := true, recurses := true, apart := false, narrowed := true }
def QuantityTablesUptoSaid : Prop := quantityTablesUptoRow.holds Try.pinned (OpenSpec.upto quantityTablesSpec)

/-- 'estoppellaw04.QuantityBack', WHERE WHAT IT READS IS OF BULK AT MOST 1048576: true; the input reads as it did. -/
def quantityBackUptoRow : OpenClaim := { program := "ytoeghbhlklnajaa", sum := "8d60030b251d21f331375bcdfdff860fac9fa0a62f3d9cddd0c226ec95219c5f", func := "estoppel/estoppellaw04.QuantityBack", spec := "quantityBack", unfollowed := true, recurses := true, apart := false, narrowed := true }
def QuantityBackUptoSaid : Prop := quantityBackUptoRow.holds Try.pinned (OpenSpec.upto quantityBackSpec)

/-- 'estoppellaw04.QuantityWay', WHERE WHAT IT READS IS OF BULK AT MOST 1048576: true; the input reads as it did. -/
def quantityWayUptoRow : OpenClaim := { program := "ytoeghbhlklnajaa", sum := "8d60030b251d21f331375bcdfdff860fac9fa0a62f3d9cddd0c226ec95219c5f", func := "estoppel/estoppellaw04.QuantityWay", spec := "quantityWay", unfollowed := true, recurses := true, apart := false, narrowed := true }
def QuantityWayUptoSaid : Prop := quantityWayUptoRow.holds Try.pinned (OpenSpec.upto quantityWaySpec)

/-- 'estoppellaw04.QuantityLinear', WHERE WHAT IT READS IS OF BULK AT MOST 1048576: true; the input reads as it did. -/
def quantityLinearUptoRow : OpenClaim := { program := "ytoeghbhlklnajaa", sum := "8d60030b251d21f331375bcdfdff860fac9fa0a62f3d9cddd0c226ec95219c5f", func := "estoppel/estoppellaw04.QuantityLinear", spec := "quantityLinear", unfollowed := true, recurses := true, apart := false, narrowed := true }
def QuantityLinearUptoSaid : Prop := quantityLinearUptoRow.holds Try.pinned (OpenSpec.upto quantityLinearSpec)

/-- 'estoppellaw04.QuantitySums', WHERE WHAT IT READS IS OF BULK AT MOST 1048576: true; the input reads as it did. -/
def quantitySumsUptoRow : OpenClaim := { program := "ytoeghbhlklnajaa", sum := "8d60030b251d21f331375bcdfdff860fac9fa0a62f3d9cddd0c226ec95219c5f", func := "estoppel/estoppellaw04.QuantitySums", spec := "quantitySums", unfollowed := true, recurses := true, apart := false, narrowed := true }
def QuantitySumsUptoSaid : Prop := quantitySumsUptoRow.holds Try.pinned (OpenSpec.upto quantitySumsSpec)

/-- 'estoppellaw04.QuantityBaskets', WHERE WHAT IT READS IS OF BULK AT MOST 1048576: true; the input reads as it did. -/
def quantityBasketsUptoRow : OpenClaim := { program := "ytoeghbhlklnajaa", sum := "8d60030b251d21f331375bcdfdff860fac9fa0a62f3d9cddd0c226ec95219c5f", func := "estoppel/estoppellaw04.QuantityBaskets", spec := "quantityBaskets", unfollowed := true, recurses := true, apart := false, narrowed := true }
def QuantityBasketsUptoSaid : Prop := quantityBasketsUptoRow.holds Try.pinned (OpenSpec.upto quantityBasketsSpec)

/-- 'estoppellaw04.QuantityCovers', WHERE WHAT IT READS IS OF BULK AT MOST 1048576: true; the input reads as it did. -/
def quantityCoversUptoRow : OpenClaim := { program := "ytoeghbhlklnajaa", sum := "8d60030b251d21f331375bcdfdff860fac9fa0a62f3d9cddd0c226ec95219c5f", func := "estoppel/estoppellaw04.QuantityCovers", spec := "quantityCovers", unfollowed := true, recurses := true, apart := false, narrowed := true }
def QuantityCoversUptoSaid : Prop := quantityCoversUptoRow.holds Try.pinned (OpenSpec.upto quantityCoversSpec)

end Rows
end Go.Proofs.Ytoeghbhlklnajaa
