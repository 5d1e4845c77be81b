/-
  A piece of the run of awake, by the kernel.
-/
import Derived.Test.YtljfidiaocakjaaGreatDoorLi
import Derived.KernelRfl
set_option linter.unusedVariables false
set_option linter.unusedSimpArgs false
namespace Go.Proofs.Tryz
open Go Go.Ev Go.RowKit
noncomputable section
theorem p4 : startK nx3 hl3 tl3 (fun tm h => headK Tryz.prog cfA 93 1 (tailC 5 (bodyOf 4)) tm [] h (chkSt nx4 hl4 tl4)) = true := by kernel_rfl
end
end Go.Proofs.Tryz
