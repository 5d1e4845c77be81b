/-
  What the row says of the functions that HostNone reaches.
-/
import Derived.Test.YtljfidiaocakjaaGreatDoorJoB
set_option linter.unusedVariables false
set_option linter.unusedSimpArgs false
namespace Go.Proofs.YtljfidiaocakjaaGreatDoor
open Go
noncomputable section
theorem hIP : (Rows.hostNoneRow.inPlace == Tryz.pinned.checked.prog.inPlace 3) = true := by
  unfold Program.inPlace
  rw [cloEq]
  kernel_rfl
theorem hUN : Tryz.pinned.checked.prog.unfollowed 3 = true := by
  unfold Program.unfollowed
  rw [cloEq]
  kernel_rfl
theorem hUN2 : (Rows.hostNoneRow.unfollowed == Tryz.pinned.checked.prog.unfollowed 3) = true := by
  rw [hUN]
  rfl
theorem hRE : (Rows.hostNoneRow.recurses == Tryz.pinned.checked.prog.recurses 3) = true := by
  unfold Program.recurses
  rw [hUN]
  rfl
theorem hVN : (Rows.hostNoneRow.named == Tryz.pinned.checked.prog.varsNamed 3) = true := by
  unfold Program.varsNamed
  rw [cloEq]
  kernel_rfl
end
end Go.Proofs.YtljfidiaocakjaaGreatDoor
