/-
  Facts of the whole table of types: they follow from what was checked.
-/
import Derived.Test.YtljfidiaocakjaaGreatDoorRows
import Derived.ClosedOfChecked
import Derived.KernelRfl
set_option linter.unusedVariables false
set_option linter.unusedSimpArgs false
namespace Go.Proofs.YtljfidiaocakjaaGreatDoor
open Go Go.ClosedOfChecked
theorem typesEq : Tryz.checked.prog.types = Tryz.checked.src.types := by kernel_rfl
theorem restOk : (Tryz.checked.prog.globals.all (fun g => decide (g.type < Tryz.checked.prog.types.size)) && Tryz.checked.prog.funcs.all (fun f => f.params.all fun t => decide (t < Tryz.checked.prog.types.size))) = true := by kernel_rfl
theorem specOk : AllSpec Tryz.checked.prog := allSpec_of Tryz.checked.wellFormed typesEq
theorem laidOutC : laidOutB Tryz.checked.prog = true := laidOutB_of specOk restOk
theorem mapsRowedC : mapsRowed Tryz.checked.prog = true := mapsRowed_of specOk
theorem laidOut : laidOutB Tryz.prog = true := laidOutC
end Go.Proofs.YtljfidiaocakjaaGreatDoor
