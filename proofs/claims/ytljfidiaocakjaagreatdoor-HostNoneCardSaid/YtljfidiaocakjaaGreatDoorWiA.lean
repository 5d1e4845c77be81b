/-
  A world in which the call may begin.
-/
import Derived.Test.YtljfidiaocakjaaGreatDoorRows
import Derived.ProofKit
import Derived.Lay
import Derived.KernelRfl
set_option linter.unusedVariables false
set_option linter.unusedSimpArgs false
namespace Go.Proofs.YtljfidiaocakjaaGreatDoor
open Go
noncomputable section
abbrev rowL : List (String × DataW Unit) := Rows.hostNoneRow.laid
def wArgs : Array Value := #[.int .i64 0, .int .i64 0, .int .i64 0, .slice none 0 0, .agg #[.int .i64 0, .slice none 0 0]]
def w0 (os : Os) : World := World.laidAll Tryz.prog os rowL
theorem wit3 (os : Os) : Input.okWideB Tryz.prog ((w0 os).forCall (fun _ _ => 0) ⟨#[], wArgs, []⟩) 3 ⟨#[], wArgs, []⟩ = true := by kernel_rfl
theorem wit4 (os : Os) (H : Type) (enc : TypeId × Value → H) : ChangeSpec.preB enc Tryz.prog Tryz.f3 Rows.hostNoneSpec [] false ((w0 os).forCall (fun _ _ => 0) ⟨#[], wArgs, []⟩).memory wArgs 8 = true := by kernel_rfl
theorem wit5 (os : Os) (H : Type) (enc : TypeId × Value → H) : ChangeSpec.sizedB enc Tryz.prog Tryz.f3 Rows.hostNoneSpec false ((w0 os).forCall (fun _ _ => 0) ⟨#[], wArgs, []⟩).memory wArgs 8 = true := by kernel_rfl
end
end Go.Proofs.YtljfidiaocakjaaGreatDoor
