/-
  A world in which the call may begin: one fact of it.
-/
import Derived.Test.YtljfidiaocakjaaGreatDoorWiA
set_option linter.unusedVariables false
set_option linter.unusedSimpArgs false
namespace Go.Proofs.YtljfidiaocakjaaGreatDoor
open Go
noncomputable section
theorem wit7 (os : Os) : World.layIfaces Tryz.prog (World.holding Tryz.prog os ⟨#[], #[], []⟩) rowL (World.laidAll Tryz.prog os rowL) = true := by kernel_rfl
end
end Go.Proofs.YtljfidiaocakjaaGreatDoor
