/-
  HostNone answers true for every input, and each argument reads afterwards as it read before (where the listed variables hold what the program's text lays).
-/
import Derived.Test.YtljfidiaocakjaaGreatDoorRwC
import Derived.Test.YtljfidiaocakjaaGreatDoorJoE
import Derived.Test.YtljfidiaocakjaaGreatDoorFnA
import Derived.JoinedOf
set_option linter.unusedVariables false
set_option linter.unusedSimpArgs false
namespace Go.Proofs.YtljfidiaocakjaaGreatDoor
open Go
theorem hostNone_holds : Rows.HostNoneSaid :=
  OpenClaim.holds_of_wide 3 Tryz.f3 rfl rfl rfl rfl rfl rfl rfl ⟨rfl, rfl, rfl, rfl, rfl⟩ rfl rfl rfl rfl rfl hName Tryz.func3 joined
    (of_decide_eq_true (by kernel_rfl)) (by unfold Func.isWrapper; first | (rw [if_pos (by decide +kernel)]; kernel_rfl) | (rw [if_neg (by decide +kernel)]; exact ⟨rfl, rfl⟩))
    (fun os started H enc _ => lifted os started H enc)
#print axioms hostNone_holds
end Go.Proofs.YtljfidiaocakjaaGreatDoor
