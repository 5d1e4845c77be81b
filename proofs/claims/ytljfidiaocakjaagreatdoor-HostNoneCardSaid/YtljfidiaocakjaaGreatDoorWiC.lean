/-
  A world in which the call may begin: one fact of it.
-/
import Derived.Test.YtljfidiaocakjaaGreatDoorWiA
set_option linter.unusedVariables false
set_option linter.unusedSimpArgs false
namespace Go.Proofs.YtljfidiaocakjaaGreatDoor
open Go
noncomputable section
theorem wit2 (os : Os) : (((w0 os).forCall (fun _ _ => 0) ⟨#[], wArgs, []⟩).heap.toList.drop Tryz.prog.globals.size).take ((begin Tryz.prog (fun _ _ => 0) default).world.heap.size - Tryz.prog.globals.size) = (begin Tryz.prog (fun _ _ => 0) default).world.heap.toList.drop Tryz.prog.globals.size := by kernel_rfl
end
end Go.Proofs.YtljfidiaocakjaaGreatDoor
