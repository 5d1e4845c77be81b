/-
  The row of HostNone, lifted.
-/
import Derived.Test.YtljfidiaocakjaaGreatDoorRwA
set_option linter.unusedVariables false
set_option linter.unusedSimpArgs false
namespace Go.Proofs.YtljfidiaocakjaaGreatDoor
open Go Go.ChangeShapes Go.WideShapes Go.ChangeAt Go.RowKit Go.Lib Go.Shelf
open Go.Proofs.Tryz (KnownAt Known hasT firstL accL SlV hostNone_ok firstL_get accL_get)
noncomputable section

set_option maxRecDepth 100000 in
theorem contract (H : Type) (enc : TypeId × Value → H) (W : World) (base : Nat) (args : Array Value) (ds gs : List (DataW H)) (before : List MemPlace)
    (hval : ∀ (j : Nat) t v, Tryz.f3.params[j]? = some t → args[j]? = some v → Value.okWide Tryz.prog W .any base t v) (hW : DataW.Whole enc Tryz.prog Tryz.f3.params.toList Rows.hostNoneSpec.vars false W args.toList ds gs before) (hL : laidMetH Tryz.prog rowL W) :
    Calls Tryz.prog 3 args W fun e W' => ∃ v, e = .returned v ∧ Rows.hostNoneSpec.post enc Tryz.prog Tryz.f3 false true false false W args v W' := by
  have hW' := hW
  obtain ⟨p, q, hA0, hV, rfl, hfz, hnd⟩ := hW
  have hA : DataW.TrodAll enc Tryz.prog W 0 (fun _ => true) true Tryz.f3.params.toList args.toList ds p := hA0
  have hA1 := hA
  rw [Tryz.params3] at hA hval
  obtain ⟨rfl, rfl⟩ := trodVars_none hV
  have hA2 : DataW.TrodAll enc Tryz.prog W 0 (fun _ => true) true [3, 3, 3, 22, 26] args.toList ds p := hA
  obtain ⟨v0, l0, d0, e0, p0, q0, ha0, rfl, rfl, t0, r0⟩ := trodAll_cons hA2
  obtain ⟨v1, l1, d1, e1, p1, q1, rfl, rfl, rfl, t1, r1⟩ := trodAll_cons r0
  obtain ⟨v2, l2, d2, e2, p2, q2, rfl, rfl, rfl, t2, r2⟩ := trodAll_cons r1
  obtain ⟨v3, l3, d3, e3, p3, q3, rfl, rfl, rfl, t3, r3⟩ := trodAll_cons r2
  obtain ⟨v4, l4, d4, e4, p4, q4, rfl, rfl, rfl, t4, r4⟩ := trodAll_cons r3
  obtain ⟨rfl, rfl, rfl⟩ := trodAll_nil r4
  obtain rfl : args = #[v0, v1, v2, v3, v4] := Array.toList_inj.1 ha0
  obtain ⟨id, rfl⟩ := okWide_int Tryz.underlying3 (hval 0 3 v0 rfl rfl)
  obtain ⟨servers, rfl⟩ := okWide_int Tryz.underlying3 (hval 1 3 v1 rfl rfl)
  obtain ⟨src, rfl⟩ := okWide_int Tryz.underlying3 (hval 2 3 v2 rfl rfl)
  obtain ⟨a3, len3, cap3, rfl⟩ := okWide_slice Tryz.underlying22 (hval 3 22 v3 rfl rfl)
  obtain ⟨cs, rfl, hcs⟩ := okWide_struct Tryz.underlying26 (hval 4 26 v4 rfl rfl)
  have hb : SlV (.slice a3 len3 cap3) := by
    obtain ⟨fuel, hf⟩ := t3
    exact slV_of Tryz.underlying22 hf
  obtain ⟨x, ys, rfl, hy⟩ : ∃ x ys, cs = #[.int .i64 x, ys] ∧ SlV ys := by
    obtain ⟨fuel, hf⟩ := t4
    have hc : Tryz.prog.cellsOf 26 = 2 := by kernel_rfl
    have hc1 : Tryz.prog.cellsOf 23 = 1 := by kernel_rfl
    have hc2 : Tryz.prog.cellsOf 24 = 1 := by kernel_rfl
    rw [hc] at hcs
    obtain ⟨l⟩ := cs
    match l, hcs with
    | [c0, c1], _ =>
      obtain ⟨y0, y1, n, _, _, h0, h1⟩ := trod_struct2 Tryz.underlying26 hf
      have h0 : DataW.trod enc Tryz.prog W 0 (fun _ => true) true n 23 (([c0, c1].drop 0).take (Tryz.prog.cellsOf 23)) = some y0 := h0
      have h1 : DataW.trod enc Tryz.prog W 0 (fun _ => true) true n 24 (([c0, c1].drop 1).take (Tryz.prog.cellsOf 24)) = some y1 := h1
      rw [hc1] at h0
      rw [hc2] at h1
      obtain ⟨k, hk, _⟩ := DataW.trod_int Tryz.underlying23 h0
      have hk : c0 = .int .i64 k := by simpa using hk
      exact ⟨k, c1, by rw [hk], slV_of Tryz.underlying24 h1⟩
  rw [MakeChecks.laidMetH_plain _ _ _ (by kernel_rfl)] at hL
  refine (hostNone_ok (known_of_laid hL) id servers src x (.slice a3 len3 cap3) ys hb hy).mono fun e W' ⟨he, hbl⟩ => ?_
  subst he
  have argsOk : ∀ t ∈ Tryz.f3.params.toList, Tryz.prog.readableRec t = true ∧ t < Tryz.prog.types.size := by
    intro t ht
    rw [Tryz.params3] at ht
    have := List.all_eq_true.1 argsB t ht
    simpa using this
  refine ⟨_, rfl, _, _, _, [], _, [], hW', trodAll_mk1 (shut_bool Tryz.underlying4 _), belowAll laidOut hbl argsOk hA1, rfl, hbl.frame _, fun h => by cases h⟩
end
end Go.Proofs.YtljfidiaocakjaaGreatDoor
