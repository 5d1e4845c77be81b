/-
  The tie of the listed variables: one fact.
-/
import Derived.Test.YtljfidiaocakjaaGreatDoorTiA
set_option linter.unusedVariables false
set_option linter.unusedSimpArgs false
namespace Go.Proofs.YtljfidiaocakjaaGreatDoor
open Go
noncomputable section
theorem tieHn : varsNamedLaterB Tryz.prog (varsId Tryz.prog) tieL = true := by kernel_rfl
end
end Go.Proofs.YtljfidiaocakjaaGreatDoor
