/-
  A piece of the run of awake, by the kernel.
-/
import Derived.Test.YtljfidiaocakjaaGreatDoorLi
import Derived.KernelRfl
set_option linter.unusedVariables false
set_option linter.unusedSimpArgs false
namespace Go.Proofs.Tryz
open Go Go.Ev Go.RowKit
noncomputable section
theorem p1 : startK 64 h0l [] (fun tm h => headK Tryz.prog cfA 93 2 (bodyOf 4) tm [] h (chkSt nx1 hl1 tl1)) = true := by kernel_rfl
end
end Go.Proofs.Tryz
