/-
  A closed fact of the card.
-/
import Derived.Test.YtljfidiaocakjaaGreatDoorRows
import Derived.SevenTiedAt
import Derived.KernelRfl
set_option linter.unusedVariables false
set_option linter.unusedSimpArgs false
namespace Go.Proofs.YtljfidiaocakjaaGreatDoor
open Go
theorem cWf : Rows.hostNoneRow.wfByText (OpenSpec.ofChange Rows.hostNoneSpec) = true := by kernel_rfl
theorem cMain : Tryz.pinned.checked.prog.mainIs = some (true, "7fe9b3e7568eb90b56f0f96f5a015972f7188d329174649cab563cbbbcee1e3b".toList) := by kernel_rfl
theorem cWant : ([3, 3, 3, 22, 26].all fun u => !Tryz.prog.wantsStandIn u) = true := by kernel_rfl
end Go.Proofs.YtljfidiaocakjaaGreatDoor
