/-
  The row of HostNone: for every input the call returns true, and each argument reads afterwards as it read before.
-/
import Derived.Test.YtljfidiaocakjaaGreatDoorRows
import Derived.Test.YtljfidiaocakjaaGreatDoorAw
import Derived.Test.YtljfidiaocakjaaGreatDoorTold
import Derived.Test.YtljfidiaocakjaaGreatDoorClA
import Derived.Test.YtljfidiaocakjaaGreatDoorWiA
import Derived.ProofKit
import Derived.PinnedBridge
import Derived.Lay
import Derived.LaidOnce
import Derived.Lib.LaidU8T
import Derived.OpenVars
import Derived.Carry
import Derived.OpenShut
import Derived.JoinedOf
import Derived.LaidLaws
import Derived.Deep.Slices
set_option linter.unusedVariables false
set_option linter.unusedSimpArgs false
namespace Go.Proofs.YtljfidiaocakjaaGreatDoor
open Go Go.ChangeShapes Go.WideShapes Go.ChangeAt Go.RowKit Go.Lib Go.Shelf
open Go.Proofs.Tryz (KnownAt Known hasT firstL accL SlV hostNone_ok firstL_get accL_get)
noncomputable section

theorem ut : U8Types Tryz.prog Tryz.laysMap_ren := U8Types.of260 { Tryz.laysMap with }
theorem ux : U8Extra Tryz.prog Tryz.laysMap_ren := ⟨by kernel_rfl, by kernel_rfl, by kernel_rfl, by kernel_rfl, by kernel_rfl, by kernel_rfl, by kernel_rfl⟩
theorem accEq : Rows.laid_unicode_utf8_acceptRanges = acceptData := by kernel_rfl
theorem firstEq : Rows.laid_unicode_utf8_first = firstData := Pinned.utf8First_eq
def hasZ : List Int := [0, 23, 17, 11, 32, 260, 0, 128, 256, 64]
theorem hasEq : (Rows.laid_beadle_deed_has : DataW Unit) = tabData .i64 hasZ := rfl
theorem gHas : Tryz.prog.globalNamed "beadle/deed.has" = some 0 := by kernel_rfl
theorem yHas : (Tryz.prog.globals[0]?).map (·.type) = some 573 := by kernel_rfl
theorem uHas : Tryz.prog.underlying 573 = some (.array 10 3) := by kernel_rfl
theorem cHas : Tryz.prog.cellsOf 573 = 10 := by kernel_rfl
theorem c3 : Tryz.prog.cellsOf 3 = 1 := by kernel_rfl
theorem own : ownKnob Tryz.prog.godebug = none := by kernel_rfl
theorem lenF : firstL.length = 256 := by kernel_rfl
theorem lenA : accL.length = 32 := by kernel_rfl
theorem known_cells {w : World} {g : Nat} {l : List Ev.V} {k : IntKind} {n : Int} (h0 : l[0]? = some (.int k n)) (h : ∀ (i : Nat) k n, l[i]? = some (Ev.V.int k n) → w.cell? ⟨g, i, none⟩ = some (.int k n)) : KnownAt w g l := by
  have h1 := h 0 k n h0
  cases ho : w.heap[g]? with
  | none => simp [World.cell?, ho] at h1
  | some o =>
    cases o with
    | cells c t f =>
      refine ⟨c, t, f, ho, fun i k n hi => ?_⟩
      have h2 := h i k n hi
      simpa [World.cell?, ho] using h2
    | _ => simp [World.cell?, ho] at h1
theorem known_of_laid {W : World} (h : laidMet Tryz.prog rowL W) : Known W := by
  have r3 := Lib.laidMet.reads h (n := "unicode/utf8.first") (d := Rows.laid_unicode_utf8_first) (.tail _ (.tail _ (.tail _ (.head _))))
  have r4 := Lib.laidMet.reads h (n := "unicode/utf8.acceptRanges") (d := Rows.laid_unicode_utf8_acceptRanges) (.tail _ (.tail _ (.tail _ (.tail _ (.head _)))))
  have r0 := Lib.laidMet.reads h (n := "beadle/deed.has") (d := Rows.laid_beadle_deed_has) (.tail _ (.tail _ (.tail _ (.tail _ (.tail _ (.tail _ (.tail _ (.head _))))))))
  rw [firstEq] at r3
  rw [accEq] at r4
  rw [hasEq] at r0
  have tabs : Lib.Utf8Tabs 2 3 W := utf8Tabs_of_readsT ut ux r3 r4
  obtain ⟨g, t, cs, fuel, p, hg, hty, hvar, hd⟩ := r0
  obtain rfl := Option.some.inj (gHas.symm.trans hg)
  obtain rfl := Option.some.inj (yHas.symm.trans hty)
  have hcs := cells_of_tab uHas Tryz.underlying3 c3 cHas hd
  refine ⟨known_cells (k := .i64) (n := 0) rfl fun i k n hi => ?_, known_cells (firstL_get 0 (by omega)) fun i k n hi => ?_, known_cells (accL_get 0 (by omega)).1 fun i k n hi => ?_⟩
  · have := World.var?_cell hg hvar i
    rw [this, ← Array.getElem?_toList, hcs]
    have e : hasT = hasZ.map fun z => Ev.V.int .i64 z := rfl
    rw [e, List.getElem?_map] at hi
    rw [List.getElem?_map]
    cases hz : hasZ[i]? with
    | none => rw [hz] at hi; cases hi
    | some z => rw [hz] at hi; cases hi; rfl
  · rcases Nat.lt_or_ge i 256 with h1 | h1
    · rw [firstL_get i h1] at hi
      cases hi
      exact tabs.1 i h1
    · rw [List.getElem?_eq_none (by rw [lenF]; exact h1)] at hi; cases hi
  · rcases Nat.lt_or_ge i 32 with h1 | h1
    · obtain ⟨j, hj, rfl | rfl⟩ : ∃ j, j < 16 ∧ (i = 2 * j ∨ i = 2 * j + 1) := ⟨i / 2, by omega, by omega⟩
      · rw [(accL_get j hj).1] at hi; cases hi; exact (tabs.2 j hj).1
      · rw [(accL_get j hj).2] at hi; cases hi; exact (tabs.2 j hj).2
    · rw [List.getElem?_eq_none (by rw [lenA]; exact h1)] at hi; cases hi

theorem belowAll {H : Type} {enc : TypeId × Value → H} {P : Program} (hl : laidOutB P = true) {W W' : World} (hb : Below W.heap.size W W') : ∀ {ts : List TypeId} {vs : List Value} {ds : List (DataW H)} {ps : List MemPlace}, (∀ t ∈ ts, P.readableRec t = true ∧ t < P.types.size) → DataW.TrodAll enc P W 0 (fun _ => true) true ts vs ds ps →
    DataW.TrodAll enc P W' 0 (fun b => decide (b < W.heap.size)) true ts vs ds ps
  | [], _, _, _, _, h => by
    obtain ⟨rfl, rfl, rfl⟩ := trodAll_nil h
    exact trodAll_mk0
  | t :: ts, vs, ds, ps, ht, h => by
    have hlt := h.lt
    obtain ⟨v, vs1, d, ds1, a, b, rfl, rfl, rfl, h1, h2⟩ := trodAll_cons h
    obtain ⟨hr, hs⟩ := ht t (.head _)
    exact ⟨a, b, hb.trod hl hr hs h1 (fun x hx => hlt x (by simp [hx])), belowAll hl hb (fun t' h' => ht t' (.tail _ h')) h2, rfl⟩
theorem argsB : [3, 3, 3, 22, 26].all (fun t => Tryz.prog.readableRec t && decide (t < Tryz.prog.types.size)) = true := by kernel_rfl
theorem slV_of {H : Type} {enc : TypeId × Value → H} {W : World} {t e : TypeId} {v : Value} {sp : Nat → Bool} {fuel : Nat} {x : DataW H × List MemPlace} {base : Nat} {held : Bool} (ht : Tryz.prog.underlying t = some (.slice e)) (h : DataW.trod enc Tryz.prog W base sp held fuel t [v] = some x) : SlV v := by
  rcases Deep.open_slice ht h with ⟨e1, _⟩ | ⟨a, len, cap, m, n, D, Pl, e1, _, hle, _⟩
  · cases e1; exact .inl rfl
  · cases e1; exact .inr ⟨a, len, cap, hle, rfl⟩
end
end Go.Proofs.YtljfidiaocakjaaGreatDoor
