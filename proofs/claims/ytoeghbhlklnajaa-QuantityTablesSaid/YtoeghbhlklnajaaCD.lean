/- How this seat's Go types read as values of Lean types. -/
import Derived.Test.YtoeghbhlklnajaaM2
import Derived.Test.YtoeghbhlklnajaaTys
import Derived.Test.YtoeghbhlklnajaaEngT
namespace Go.Proofs.Ytoeghbhlklnajaa
open Go.Eng
set_option maxRecDepth 10000
set_option linter.unusedSimpArgs false
set_option linter.unusedVariables false
instance : Inhabited U := ⟨⟨emptyName, 0, 0, (0, 0)⟩⟩
instance : Inhabited A := ⟨⟨0, (0, 0)⟩⟩
noncomputable def cInt : Codec Try.prog 3 Int := Codec.int .i64 (show Try.prog.underlying 3 = some (.int .i64) from by kernel_rfl) (by kernel_rfl)
noncomputable def cU8 : Codec Try.prog 5 Int := Codec.int .u8 (show Try.prog.underlying 5 = some (.int .u8) from by kernel_rfl) (by kernel_rfl)
noncomputable def cStr : Codec Try.prog 9 ByteArray := Codec.str (show Try.prog.underlying 9 = some .string from by kernel_rfl) (by kernel_rfl)
noncomputable def cQ : Codec Try.prog 31 Q := (Codec.struct ty31_k rfl (.cons cInt (.cons cInt (.nil _ _))) (by kernel_rfl)).map (fun x => (x.1, x.2.1)) qc qW (fun _ => rfl) (fun _ => rfl) (fun _ h => ⟨h.1, h.2.1⟩)
noncomputable def cA : Codec Try.prog 33 A := (Codec.struct ty33_k rfl (.cons cInt (.cons cQ (.nil _ _))) (by kernel_rfl)).map (fun x => ⟨x.1, x.2.1⟩) ac aW (fun _ => rfl) (fun _ => rfl) (fun _ h => ⟨h.1, h.2.1⟩)
noncomputable def cU : Codec Try.prog 42 U := (Codec.struct ty42_k rfl (.cons cStr (.cons cInt (.cons cInt (.cons cQ (.nil _ _))))) (by kernel_rfl)).map (fun x => ⟨x.1, x.2.1, x.2.2.1, x.2.2.2.1⟩) uc uW (fun _ => rfl) (fun _ => rfl) (fun _ h => ⟨h.2.1, h.2.2.1, h.2.2.2.1⟩)
noncomputable def cQs : Codec Try.prog 24 (List Q) := Codec.slice cQ ty24_k (by decide) (by kernel_rfl)
noncomputable def cAs : Codec Try.prog 23 (List A) := Codec.slice cA ty23_k (by decide) (by kernel_rfl)
noncomputable def cUs : Codec Try.prog 22 (List U) := Codec.slice cU ty22_k (by decide) (by kernel_rfl)
theorem all_getD {α : Type} [Inhabited α] {p : α → Prop} {l : List α} (h : ∀ a ∈ l, p a) : ∀ j, j < l.length → p (l.getD j default) := by
  intro j hj
  simp only [List.getD_eq_getElem?_getD, List.getElem?_eq_getElem hj, Option.getD_some]
  exact h _ (List.getElem_mem hj)
end Go.Proofs.Ytoeghbhlklnajaa
