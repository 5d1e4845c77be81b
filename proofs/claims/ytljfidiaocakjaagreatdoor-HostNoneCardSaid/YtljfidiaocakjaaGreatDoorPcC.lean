/-
  Two pieces of the run of awake, by the kernel.
-/
import Derived.Test.YtljfidiaocakjaaGreatDoorLi
import Derived.KernelRfl
set_option linter.unusedVariables false
set_option linter.unusedSimpArgs false
namespace Go.Proofs.Tryz
open Go Go.Ev Go.RowKit
noncomputable section
theorem p3 : startK nx2 hl2 tl2 (fun tm h => headK Tryz.prog cfA 93 1 (tailC 4 (bodyOf 4)) tm [] h (chkSt nx3 hl3 tl3)) = true := by kernel_rfl
end
end Go.Proofs.Tryz
namespace Go.Proofs.Tryz
open Go Go.Ev Go.RowKit
noncomputable section
theorem p5 : startK nx4 hl4 tl4 (fun tm h => codeK Tryz.prog cfA 93 (tailC 6 (bodyOf 4)) none tm [] h (endK Tryz.prog T0 [.tmp 0] isTrue)) = true := by kernel_rfl
end
end Go.Proofs.Tryz
