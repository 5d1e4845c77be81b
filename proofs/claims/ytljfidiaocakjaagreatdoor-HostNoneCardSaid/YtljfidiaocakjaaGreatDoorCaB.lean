/-
  A closed fact of the card: no function of the program starts a goroutine.
-/
import Derived.Test.YtljfidiaocakjaaGreatDoorRows
import Derived.Test.YtljfidiaocakjaaGreatDoorFnA
import Derived.SevenTiedAt
import Derived.KernelRfl
set_option linter.unusedVariables false
set_option linter.unusedSimpArgs false
namespace Go.Proofs.YtljfidiaocakjaaGreatDoor
open Go
theorem cLooks : true = Tryz.pinned.checked.prog.looks [] := by kernel_rfl
theorem cStill : Tryz.pinned.checked.prog.funcs.toList.all (fun fn => !fn.goes) = true := by kernel_rfl
theorem goes_none {P : Program} (h : P.funcs.toList.all (fun fn => !fn.goes) = true) (f : FuncId) : P.goes f = false := by
  have one : ∀ fn ∈ P.funcs.toList, fn.goes = false := fun fn hm => by simpa using List.all_eq_true.1 h fn hm
  have h1 : ∀ g : Nat, (P.funcs[g]?).any Func.goes = false := by
    intro g
    cases hg : P.funcs[g]? with
    | none => rfl
    | some fn => exact one fn (Array.mem_toList_iff.2 (Array.mem_of_getElem? hg))
  have h2 : P.funcs.any Func.goes = false := by
    rw [Array.any_eq_false']
    intro fn hm
    rw [one fn (Array.mem_toList_iff.2 hm)]
    simp
  unfold Program.goes
  rw [h2]
  simp [h1]
theorem goesBy_none {c : OpenClaim} {P : Program} (h0 : c.start = .entering) (h : P.funcs.toList.all (fun fn => !fn.goes) = true) : false = c.goesBy P := by
  unfold OpenClaim.goesBy Program.goesAt Program.goesFrom
  rw [h0]
  cases P.funcNamed c.func with
  | none => rfl
  | some f => simp [goes_none h f]
theorem cGoes : false = Rows.hostNoneRow.goesBy Tryz.pinned.checked.prog := goesBy_none rfl cStill
end Go.Proofs.YtljfidiaocakjaaGreatDoor
