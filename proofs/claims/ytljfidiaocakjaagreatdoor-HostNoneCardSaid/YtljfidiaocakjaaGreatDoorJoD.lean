/-
  Two facts of the whole program.
-/
import Derived.Test.YtljfidiaocakjaaGreatDoorRows
import Derived.JoinedOf
import Derived.KernelRfl
set_option linter.unusedVariables false
set_option linter.unusedSimpArgs false
namespace Go.Proofs.YtljfidiaocakjaaGreatDoor
open Go
noncomputable section
theorem hSH : Tryz.pinned.checked.prog.stopsHeard = true := by kernel_rfl
theorem hME : Tryz.pinned.checked.prog.mayEnter = true := by kernel_rfl
end
end Go.Proofs.YtljfidiaocakjaaGreatDoor
