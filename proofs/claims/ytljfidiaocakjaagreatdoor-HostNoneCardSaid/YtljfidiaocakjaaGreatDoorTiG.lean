/-
  The tie of the listed variables: one fact.
-/
import Derived.Test.YtljfidiaocakjaaGreatDoorTiA
set_option linter.unusedVariables false
set_option linter.unusedSimpArgs false
namespace Go.Proofs.YtljfidiaocakjaaGreatDoor
open Go
noncomputable section
theorem tieHd : ∀ os tape, varsDone Tryz.prog 400 (varsId Tryz.prog) os tape = true := fun _ _ => by kernel_rfl
end
end Go.Proofs.YtljfidiaocakjaaGreatDoor
