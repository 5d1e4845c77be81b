/-
  The tie of the listed variables: one fact.
-/
import Derived.Test.YtljfidiaocakjaaGreatDoorTiA
set_option linter.unusedVariables false
set_option linter.unusedSimpArgs false
namespace Go.Proofs.YtljfidiaocakjaaGreatDoor
open Go
noncomputable section
theorem tieHroot : Tryz.prog.worded rootWordLater = true := by kernel_rfl
end
end Go.Proofs.YtljfidiaocakjaaGreatDoor
