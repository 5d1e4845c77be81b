/-
  A world in which the call may begin: one fact of it.
-/
import Derived.Test.YtljfidiaocakjaaGreatDoorWiA
set_option linter.unusedVariables false
set_option linter.unusedSimpArgs false
namespace Go.Proofs.YtljfidiaocakjaaGreatDoor
open Go
noncomputable section
theorem wit1 (os : Os) : World.variablesZipB Tryz.prog ((w0 os).forCall (fun _ _ => 0) ⟨#[], wArgs, []⟩) = true := by kernel_rfl
end
end Go.Proofs.YtljfidiaocakjaaGreatDoor
