/-
  The row of HostNone, lifted: a world in which it may begin, and its contract.
-/
import Derived.Test.YtljfidiaocakjaaGreatDoorRwB
import Derived.Test.YtljfidiaocakjaaGreatDoorWiB
import Derived.Test.YtljfidiaocakjaaGreatDoorWiC
import Derived.Test.YtljfidiaocakjaaGreatDoorWiD
import Derived.Test.YtljfidiaocakjaaGreatDoorWiE
set_option linter.unusedVariables false
set_option linter.unusedSimpArgs false
namespace Go.Proofs.YtljfidiaocakjaaGreatDoor
open Go Go.ChangeShapes Go.WideShapes Go.ChangeAt Go.RowKit Go.Lib Go.Shelf
noncomputable section
theorem noInit : Tryz.checked.prog.inits.idxOf? 3 = none := by kernel_rfl
set_option maxRecDepth 100000 in
theorem lifted (os : Os) (started : os.Started) (H : Type) (enc : TypeId × Value → H) :
    ReturnsInHanded {} Tryz.checked os 3 .any (fun w args => (Rows.hostNoneSpec.pre enc Tryz.prog Tryz.f3 [] false w args ∧ laidMetH Tryz.prog rowL w) ∧ sizedMet enc Tryz.prog Tryz.f3 (OpenSpec.ofChange Rows.hostNoneSpec) false w args)
      (Rows.hostNoneSpec.post enc Tryz.prog Tryz.f3 false true false false) := by
  refine returnsInHanded_of_change_and (C := Tryz.checked) (X := fun w _ => laidMetH Tryz.prog rowL w) (fun _ _ _ hh h => h.of_heap hh) own started noInit Tryz.func3
    (ChangeSpec.witness_shaped (enc := enc) (C := Tryz.checked) (os := os) (X := fun w _ => laidMetH Tryz.prog rowL w) false (w0 os) wArgs 8 (World.laidAll_os _ _ _)
      (World.shaped_of_ZipB (wit1 os) (wit2 os)) (wit3 os) (wit4 os H enc) (wit5 os H enc)
      (by rw [MakeChecks.laidMetH_plain _ _ _ (by kernel_rfl)]; exact laidMet_laidAll _ (wit6 os) (wit7 os))) ?_
  intro W base args ds gs before hval hW _ _ hL _
  exact contract H enc W base args ds gs before hval hW hL
end
end Go.Proofs.YtljfidiaocakjaaGreatDoor
