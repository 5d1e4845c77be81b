/-
  The closed facts of the row, joined.
-/
import Derived.Test.YtljfidiaocakjaaGreatDoorJoC
import Derived.Test.YtljfidiaocakjaaGreatDoorJoD
import Derived.Test.YtljfidiaocakjaaGreatDoorClA
import Derived.JoinedOf
set_option linter.unusedVariables false
set_option linter.unusedSimpArgs false
namespace Go.Proofs.YtljfidiaocakjaaGreatDoor
open Go
noncomputable section
theorem joined : joinedFacts Tryz.pinned.checked.prog 3 Tryz.f3 Rows.hostNoneSpec Rows.hostNoneRow = true := by
  have h1 : laidOutB Tryz.pinned.checked.prog = true := laidOutC
  have h2 : mapsRowed Tryz.pinned.checked.prog = true := mapsRowedC
  unfold joinedFacts
  rw [h1, h2, hIP, hUN2, hRE, hVN, hSH, hME]
  show (_ : Bool) = true
  kernel_rfl
end
end Go.Proofs.YtljfidiaocakjaaGreatDoor
