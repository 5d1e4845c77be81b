/-
  DERIVED. GIVEN WITH THE SEED: THE CARDS: each row of YtljfidiaocakjaaGreatDoorRows.lean that lists a variable, with what it lists TIED to the program's text (the seventh form; the later family's looks); each row that meets fmt, with fmt's text TOLD by the authors' own Lean function (tested against real Go, not proved from fmt's source: count such statements apart). THE CARD IS WHAT COUNTS. Prove the row's statement (the work); the ties are given (YtljfidiaocakjaaGreatDoorTie.lean); close each card by the builder's one call (the guide's Derived/Test/ToyasCard.lean, 'card_holds'). Laid BY PROGRAM, IN A SANDBOX (cutbox-door.mjs). By AI agents, Wed Nov 11 2026. No macro, syntax, notation, axiom, sorry.
-/
import Derived.Test.YtljfidiaocakjaaGreatDoorRows
import GoSem.ClaimSeven
namespace Go.Proofs.YtljfidiaocakjaaGreatDoor
namespace Rows

/-- THE TIED CARD OF 'beadlelaw27.HostNone'. -/
def hostNoneCard : Claim7 := { stood := { row := hostNoneRow, standIns := [], harness := (true, "7fe9b3e7568eb90b56f0f96f5a015972f7188d329174649cab563cbbbcee1e3b"), looks := true }, kinds := [], alts := [], laidByText := true, laidKinds := [.data, .data, .data, .pinned, .data, .sentinel, .sentinel, .data, .sentinel], laidTests := true, laidLooks := .later }
def HostNoneCardSaid : Prop := Claim7.holds Tryz.pinned (.plain (OpenSpec.ofChange hostNoneSpec)) hostNoneCard

/-- THE SECOND FORM's CARD OF 'beadlelaw27.HostNone'. -/
def hostNoneUptoCard : Claim7 := { stood := { row := hostNoneUptoRow, standIns := [], harness := (true, "7fe9b3e7568eb90b56f0f96f5a015972f7188d329174649cab563cbbbcee1e3b"), looks := true }, kinds := [], alts := [], laidByText := true, laidKinds := [.data, .data, .data, .pinned, .data, .sentinel, .sentinel, .data, .sentinel], laidTests := true, laidLooks := .later }
def HostNoneUptoCardSaid : Prop := Claim7.holds Tryz.pinned (.plain (OpenSpec.upto hostNoneSpec)) hostNoneUptoCard
end Rows
end Go.Proofs.YtljfidiaocakjaaGreatDoor
