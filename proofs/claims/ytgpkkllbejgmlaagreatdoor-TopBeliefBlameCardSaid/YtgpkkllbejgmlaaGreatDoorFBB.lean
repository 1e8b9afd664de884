/- TopBeliefBlame returns true for every input, and leaves each argument as it read (the tied card). Condition: the listed variables (math/bits.deBruijn32tab, math/bits.deBruijn64tab, internal/strconv.uint64pow10) start as the program's text lays them, to which the given tie holds them. -/
import Derived.Test.YtgpkkllbejgmlaaGreatDoorZz33
import Derived.Test.YtgpkkllbejgmlaaGreatDoorCards
import Derived.Test.YtgpkkllbejgmlaaGreatDoorTie
import Derived.SevenTiedAt
set_option linter.unusedSimpArgs false
set_option linter.unusedVariables false
namespace Go.Proofs.YtgpkkllbejgmlaaGreatDoor
open Go
set_option maxRecDepth 100000
theorem topBeliefBlame_card_holds:Rows.TopBeliefBlameCardSaid:=
 Claim7.holds_tied_plain_at .later [] [.data,.data,.data] true (true, "99dbb0334e1c9f5a002edd84907413eb6892b29b5d92db362b8dae0abf0a8f63") false
  topBeliefBlame_holds (fun _ h=>by cases h) (by kernel_rfl) (fun _ h=>by cases h) topBeliefBlame_row_tie rfl ⟨rfl,rfl⟩ (by kernel_rfl) rfl
  (fun f fn hf hfn=>by
   obtain rfl:f=3:=Option.some.inj ((show Tryz.prog.funcNamed "estoppel/estoppeltop.TopBeliefBlame" =some 3 by kernel_rfl).symm.trans hf)|>.symm
   obtain rfl:fn=Tryz.f3:=(Option.some.inj (Tryz.func3.symm.trans hfn)).symm
   exact⟨by kernel_rfl,fun j t ht=>by
    rw[Tryz.params3] at ht
    rcases j with _|_|_|_|j
    ·obtain rfl:t=27:=by simpa using ht.symm
     exact(show Tryz.prog.wantsStandIn 27=false by kernel_rfl)
    ·obtain rfl:t=5:=by simpa using ht.symm
     exact(show Tryz.prog.wantsStandIn 5=false by kernel_rfl)
    ·obtain rfl:t=5:=by simpa using ht.symm
     exact(show Tryz.prog.wantsStandIn 5=false by kernel_rfl)
    ·obtain rfl:t=22:=by simpa using ht.symm
     exact(show Tryz.prog.wantsStandIn 22=false by kernel_rfl)
    ·simp at ht⟩)
  (by kernel_rfl)
end Go.Proofs.YtgpkkllbejgmlaaGreatDoor
