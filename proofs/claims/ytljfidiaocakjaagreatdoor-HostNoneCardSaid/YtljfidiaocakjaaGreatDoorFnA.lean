/-
  The function of the row, by its name.
-/
import Derived.Test.YtljfidiaocakjaaGreatDoorRows
import Derived.KernelRfl
set_option linter.unusedVariables false
set_option linter.unusedSimpArgs false
namespace Go.Proofs.YtljfidiaocakjaaGreatDoor
open Go
noncomputable section
theorem hName : Tryz.pinned.checked.prog.funcNamed Rows.hostNoneRow.func = some 3 := by kernel_rfl
end
end Go.Proofs.YtljfidiaocakjaaGreatDoor
