/-
  The card of HostNone: for every input it answers true, and each argument reads afterwards as it read before; the listed variables are tied to the program's text.
-/
import Derived.Test.YtljfidiaocakjaaGreatDoorCards
import Derived.Test.YtljfidiaocakjaaGreatDoorRwD
import Derived.Test.YtljfidiaocakjaaGreatDoorTiJ
import Derived.Test.YtljfidiaocakjaaGreatDoorCaA
import Derived.Test.YtljfidiaocakjaaGreatDoorCaB
import Derived.SevenTiedAt
set_option linter.unusedVariables false
set_option linter.unusedSimpArgs false
namespace Go.Proofs.YtljfidiaocakjaaGreatDoor
open Go
theorem hostNone_card : Rows.HostNoneCardSaid :=
  Claim7.holds_tied_plain_at .later [] [.data, .data, .data, .pinned, .data, .sentinel, .sentinel, .data, .sentinel] true (true, "7fe9b3e7568eb90b56f0f96f5a015972f7188d329174649cab563cbbbcee1e3b") true
    hostNone_holds (fun _ h => by cases h) cWf (fun _ h => by cases h) rowTie rfl ⟨rfl, rfl⟩ cMain rfl
    (fun f fn hf hfn => by
      obtain rfl : f = 3 := Option.some.inj (hName.symm.trans hf) |>.symm
      obtain rfl : fn = Tryz.f3 := (Option.some.inj (Tryz.func3.symm.trans hfn)).symm
      exact ⟨cLooks, fun j t ht => by
        rw [Tryz.params3] at ht
        have hm : t ∈ [3, 3, 3, 22, 26] := by simpa using Array.mem_of_getElem? ht
        exact (show Tryz.prog.wantsStandIn t = false by simpa using List.all_eq_true.1 cWant t hm)⟩)
    cGoes
#print axioms hostNone_card
end Go.Proofs.YtljfidiaocakjaaGreatDoor
