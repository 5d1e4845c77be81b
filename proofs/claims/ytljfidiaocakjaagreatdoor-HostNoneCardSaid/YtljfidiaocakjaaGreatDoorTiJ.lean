/-
  The tie of the listed variables to the program's text, and the row's tie.
-/
import Derived.Test.YtljfidiaocakjaaGreatDoorTiB
import Derived.Test.YtljfidiaocakjaaGreatDoorTiC
import Derived.Test.YtljfidiaocakjaaGreatDoorTiD
import Derived.Test.YtljfidiaocakjaaGreatDoorTiE
import Derived.Test.YtljfidiaocakjaaGreatDoorTiF
import Derived.Test.YtljfidiaocakjaaGreatDoorTiG
import Derived.Test.YtljfidiaocakjaaGreatDoorTiH
import Derived.Test.YtljfidiaocakjaaGreatDoorTiI
set_option linter.unusedVariables false
set_option linter.unusedSimpArgs false
namespace Go.Proofs.YtljfidiaocakjaaGreatDoor
open Go
theorem tieOk : Tryz.prog.laidByTextLater tieL [.data, .data, .data, .data, .sentinel, .sentinel, .data, .sentinel] true :=
  Program.laidByTextLater_by_run 400 8 tieHw tieHv tieHroot tieHk tieHg tieHn tieHd tieH1 tieH2 tieHp
theorem pinFirst : Tryz.pinned.checked.prog.pinnedFits "unicode/utf8.first" = true := by kernel_rfl
theorem fitsOk : Tryz.pinned.checked.prog.listedFits Rows.hostNoneRow.laid = true := by
  unfold Program.listedFits
  rw [noOwnUnsafe]
  kernel_rfl
theorem rowTie : Rows.hostNoneRow.laidByTextAt .later Tryz.pinned [.data, .data, .data, .pinned, .data, .sentinel, .sentinel, .data, .sentinel] true :=
  OpenClaim.laidByTextAt_pinned rfl rfl tieOk rfl rfl rfl rfl (fun y hy _e => by
    simp only [Rows.hostNoneRow, List.zip_cons_cons, List.zip_nil_right, List.mem_cons, List.mem_nil_iff, or_false] at hy
    rcases hy with rfl | rfl | rfl | rfl | rfl | rfl | rfl | rfl | rfl
    · cases _e
    · cases _e
    · cases _e
    · exact ⟨pinFirst, by kernel_rfl⟩
    · cases _e
    · cases _e
    · cases _e
    · cases _e
    · cases _e) fitsOk
end Go.Proofs.YtljfidiaocakjaaGreatDoor
