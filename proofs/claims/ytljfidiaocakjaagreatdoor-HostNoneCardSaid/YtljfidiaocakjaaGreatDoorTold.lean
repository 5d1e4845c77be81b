/-
  Functions of the program told: what they answer where the run of awake calls them.
-/
import Derived.Test.YtljfidiaocakjaaGreatDoorChecked
import Derived.Ground.NamesProg
import Derived.Shelf.Strings.MapAny
import Derived.Shelf.Strconv.Itoa3
import Derived.Shelf.Strings.Search1
import Derived.Test.YtljfidiaocakjaaGreatDoorEvE
import Derived.KernelRfl
import Derived.WalkKit
import Derived.Defers
import Derived.Recover
import Derived.WalkMore
import Derived.RangeFuncNested
import Derived.RangeFuncBound
import Derived.RangeFuncCalls
import Derived.RangeFuncLeaves
import Derived.RangeFuncFrom
import Derived.RangeFuncBox
import Derived.Shelf.Abstract
import Derived.Shelf.RegionOpen
import Derived.OwnWalkIn
import Derived.TacticsInMore
import Derived.LoopNIn
import Derived.LoopIn
import Derived.CallsIn
set_option linter.unusedVariables false
set_option linter.unusedSimpArgs false
namespace Go.Proofs
open Go.Shelf
def Tryz.laysMap_ren : Go.Shelf.Ren := ⟨fun | 230 => 344 | 197 => 472 | 118 => 473 | 165 => 474 | 166 => 475 | 168 => 476 | 270 => 477 | 167 => 478 | 169 => 479 | 260 => 558 | 240 => 559 | 241 => 560 | 242 => 561 | 276 => 619 | 277 => 620 | 278 => 621 | n => n, fun | 107 => 464 | 9 => 9 | 72 => 554 | 0 => 0 | 4 => 4 | 3 => 3 | 21 => 21 | 105 => 555 | 76 => 426 | 5 => 5 | 75 => 425 | 70 => 552 | 20 => 20 | 37 => 22 | 127 => 614 | 119 => 656 | 46 => 95 | 139 => 659 | 138 => 658 | 164 => 660 | 51 => 337 | 80 => 304 | n => n, fun | 3 => 2 | 4 => 3 | n => n⟩
theorem Tryz.laysMap : Go.Proofs.Lays.n230 Tryz.prog Tryz.laysMap_ren := {
  mixed := by kernel_rfl
  f118 := Tryz.func473.trans (congrArg some (by kernel_rfl))
  f165 := Tryz.func474.trans (congrArg some (by kernel_rfl))
  f166 := Tryz.func475.trans (congrArg some (by kernel_rfl))
  f167 := Tryz.func478.trans (congrArg some (by kernel_rfl))
  f168 := Tryz.func476.trans (congrArg some (by kernel_rfl))
  f169 := Tryz.func479.trans (congrArg some (by kernel_rfl))
  f197 := Tryz.func472.trans (congrArg some (by kernel_rfl))
  f230 := Tryz.func344.trans (congrArg some (by kernel_rfl))
  f240 := Tryz.func559.trans (congrArg some (by kernel_rfl))
  f241 := Tryz.func560.trans (congrArg some (by kernel_rfl))
  f242 := Tryz.func561.trans (congrArg some (by kernel_rfl))
  f260 := Tryz.func558.trans (congrArg some (by kernel_rfl))
  f270 := Tryz.func477.trans (congrArg some (by kernel_rfl))
  f276 := Tryz.func619.trans (congrArg some (by kernel_rfl))
  f277 := Tryz.func620.trans (congrArg some (by kernel_rfl))
  f278 := Tryz.func621.trans (congrArg some (by kernel_rfl))
  t0 := Tryz.underlying0
  a0 := Tryz.isAgg0
  z0 := Tryz.sizeOf0
  v0 := Tryz.zeroValue0
  t3 := Tryz.underlying3
  a3 := Tryz.isAgg3
  z3 := Tryz.sizeOf3
  v3 := Tryz.zeroValue3
  t4 := Tryz.underlying4
  a4 := Tryz.isAgg4
  z4 := Tryz.sizeOf4
  v4 := Tryz.zeroValue4
  t5 := Tryz.underlying5
  a5 := Tryz.isAgg5
  z5 := Tryz.sizeOf5
  v5 := Tryz.zeroValue5
  t9 := Tryz.underlying9
  a9 := Tryz.isAgg9
  z9 := Tryz.sizeOf9
  v9 := Tryz.zeroValue9
  t20 := Tryz.underlying20
  a20 := Tryz.isAgg20
  z20 := Tryz.sizeOf20
  v20 := Tryz.zeroValue20
  t21 := Tryz.underlying21
  a21 := Tryz.isAgg21
  z21 := Tryz.sizeOf21
  v21 := Tryz.zeroValue21
  t37 := Tryz.underlying22
  a37 := Tryz.isAgg22
  z37 := Tryz.sizeOf22
  v37 := Tryz.zeroValue22
  t46 := Tryz.underlying95
  a46 := Tryz.isAgg95
  z46 := Tryz.sizeOf95
  v46 := Tryz.zeroValue95
  t51 := Tryz.underlying337
  a51 := Tryz.isAgg337
  z51 := Tryz.sizeOf337
  v51 := Tryz.zeroValue337
  t70 := Tryz.underlying552
  a70 := Tryz.isAgg552
  z70 := Tryz.sizeOf552
  v70 := Tryz.zeroValue552
  t72 := Tryz.underlying554
  a72 := Tryz.isAgg554
  z72 := Tryz.sizeOf554
  v72 := Tryz.zeroValue554
  t75 := Tryz.underlying425
  a75 := Tryz.isAgg425
  z75 := Tryz.sizeOf425
  v75 := Tryz.zeroValue425
  t76 := Tryz.underlying426
  a76 := Tryz.isAgg426
  z76 := Tryz.sizeOf426
  v76 := Tryz.zeroValue426
  t105 := Tryz.underlying555
  a105 := Tryz.isAgg555
  z105 := Tryz.sizeOf555
  v105 := Tryz.zeroValue555
  t107 := Tryz.underlying464
  a107 := Tryz.isAgg464
  z107 := Tryz.sizeOf464
  v107 := Tryz.zeroValue464
  t119 := Tryz.underlying656
  a119 := Tryz.isAgg656
  z119 := Tryz.sizeOf656
  t127 := Tryz.underlying614
  a127 := Tryz.isAgg614
  z127 := Tryz.sizeOf614
  v127 := Tryz.zeroValue614
  t138 := Tryz.underlying658
  a138 := Tryz.isAgg658
  z138 := Tryz.sizeOf658
  v138 := Tryz.zeroValue658
  t139 := Tryz.underlying659
  a139 := Tryz.isAgg659
  z139 := Tryz.sizeOf659
  v139 := Tryz.zeroValue659
  t164 := Tryz.underlying660
  a164 := Tryz.isAgg660
  z164 := Tryz.sizeOf660
  v164 := Tryz.zeroValue660
  g3 := by kernel_rfl
  g4 := by kernel_rfl }
def Tryz.laysItoa_ren : Go.Shelf.Ren := ⟨fun | 171 => 334 | 243 => 458 | 246 => 547 | 283 => 605 | 284 => 606 | 285 => 607 | 286 => 608 | 129 => 287 | 317 => 632 | 318 => 633 | 319 => 634 | 320 => 635 | 337 => 647 | 338 => 648 | n => n, fun | 3 => 3 | 9 => 9 | 2 => 2 | 4 => 4 | 171 => 641 | 0 => 0 | 53 => 329 | 37 => 22 | 5 => 5 | 173 => 643 | 212 => 671 | 51 => 337 | 20 => 20 | 213 => 672 | 46 => 95 | 232 => 686 | 233 => 687 | n => n, fun | 17 => 4 | 18 => 8 | 19 => 9 | n => n⟩
theorem Tryz.laysItoa : Go.Proofs.Lays.n171 Tryz.prog Tryz.laysItoa_ren := {
  mixed := by kernel_rfl
  f129 := Tryz.func287.trans (congrArg some (by kernel_rfl))
  f171 := Tryz.func334.trans (congrArg some (by kernel_rfl))
  f243 := Tryz.func458.trans (congrArg some (by kernel_rfl))
  f246 := Tryz.func547.trans (congrArg some (by kernel_rfl))
  f283 := Tryz.func605.trans (congrArg some (by kernel_rfl))
  f284 := Tryz.func606.trans (congrArg some (by kernel_rfl))
  f285 := Tryz.func607.trans (congrArg some (by kernel_rfl))
  f286 := Tryz.func608.trans (congrArg some (by kernel_rfl))
  f317 := Tryz.func632.trans (congrArg some (by kernel_rfl))
  f318 := Tryz.func633.trans (congrArg some (by kernel_rfl))
  f319 := Tryz.func634.trans (congrArg some (by kernel_rfl))
  f320 := Tryz.func635.trans (congrArg some (by kernel_rfl))
  f337 := Tryz.func647.trans (congrArg some (by kernel_rfl))
  f338 := Tryz.func648.trans (congrArg some (by kernel_rfl))
  t0 := Tryz.underlying0
  a0 := Tryz.isAgg0
  z0 := Tryz.sizeOf0
  v0 := Tryz.zeroValue0
  t2 := Tryz.underlying2
  a2 := Tryz.isAgg2
  z2 := Tryz.sizeOf2
  v2 := Tryz.zeroValue2
  t3 := Tryz.underlying3
  a3 := Tryz.isAgg3
  z3 := Tryz.sizeOf3
  v3 := Tryz.zeroValue3
  t4 := Tryz.underlying4
  a4 := Tryz.isAgg4
  z4 := Tryz.sizeOf4
  v4 := Tryz.zeroValue4
  t5 := Tryz.underlying5
  a5 := Tryz.isAgg5
  z5 := Tryz.sizeOf5
  v5 := Tryz.zeroValue5
  t9 := Tryz.underlying9
  a9 := Tryz.isAgg9
  z9 := Tryz.sizeOf9
  v9 := Tryz.zeroValue9
  t20 := Tryz.underlying20
  a20 := Tryz.isAgg20
  z20 := Tryz.sizeOf20
  v20 := Tryz.zeroValue20
  t37 := Tryz.underlying22
  a37 := Tryz.isAgg22
  z37 := Tryz.sizeOf22
  v37 := Tryz.zeroValue22
  t46 := Tryz.underlying95
  a46 := Tryz.isAgg95
  z46 := Tryz.sizeOf95
  v46 := Tryz.zeroValue95
  t51 := Tryz.underlying337
  a51 := Tryz.isAgg337
  z51 := Tryz.sizeOf337
  v51 := Tryz.zeroValue337
  t53 := Tryz.underlying329
  a53 := Tryz.isAgg329
  z53 := Tryz.sizeOf329
  v53 := Tryz.zeroValue329
  t171 := Tryz.underlying641
  a171 := Tryz.isAgg641
  z171 := Tryz.sizeOf641
  v171 := Tryz.zeroValue641
  t173 := Tryz.underlying643
  a173 := Tryz.isAgg643
  z173 := Tryz.sizeOf643
  v173 := Tryz.zeroValue643
  t212 := Tryz.underlying671
  a212 := Tryz.isAgg671
  z212 := Tryz.sizeOf671
  v212 := Tryz.zeroValue671
  t213 := Tryz.underlying672
  a213 := Tryz.isAgg672
  z213 := Tryz.sizeOf672
  t232 := Tryz.underlying686
  a232 := Tryz.isAgg686
  z232 := Tryz.sizeOf686
  v232 := Tryz.zeroValue686
  t233 := Tryz.underlying687
  a233 := Tryz.isAgg687
  z233 := Tryz.sizeOf687
  v233 := Tryz.zeroValue687
  g17 := by kernel_rfl
  g18 := by kernel_rfl
  g19 := by kernel_rfl }
def Tryz.laysIndexByte_ren : Go.Shelf.Ren := ⟨fun | 217 => 636 | 266 => 649 | n => n, fun | 9 => 9 | 5 => 5 | 3 => 3 | n => n, fun | n => n⟩
theorem Tryz.laysIndexByte : Go.Proofs.Lays.n217 Tryz.prog Tryz.laysIndexByte_ren := {
  mixed := by kernel_rfl
  f217 := Tryz.func636.trans (congrArg some (by kernel_rfl))
  f266 := Tryz.func649.trans (congrArg some (by kernel_rfl))
  t3 := Tryz.underlying3
  a3 := Tryz.isAgg3
  z3 := Tryz.sizeOf3
  v3 := Tryz.zeroValue3
  t5 := Tryz.underlying5
  a5 := Tryz.isAgg5
  z5 := Tryz.sizeOf5
  v5 := Tryz.zeroValue5
  t9 := Tryz.underlying9
  a9 := Tryz.isAgg9
  z9 := Tryz.sizeOf9
  v9 := Tryz.zeroValue9 }
end Go.Proofs
namespace Go.Proofs.Tryz
open Go Go.Ev

theorem mixedOk : Tryz.prog.follows .mixedOrders = true := by kernel_rfl
theorem namesB : Tryz.prog.funcs.toList.all (fun fn => !(fn.name == "runtime.NumGoroutine")) = true := by kernel_rfl
theorem namesOk (f : Nat) (fn : Func) (h : Tryz.prog.funcs[f]? = some fn) : (fn.name == "runtime.NumGoroutine") = false := by
  have h1 := List.all_eq_true.1 namesB fn (Array.mem_toList_iff.2 (Array.mem_of_getElem? h))
  simpa using h1
noncomputable def fieldsB1 (t : Nat) : Bool := match Tryz.prog.underlying t with
  | some (.struct fs) => (fs.toList.mapM (fun f => (Tryz.prog.info? f.type).map fun i => (f.offset, i.size))).isSome
  | _ => true
theorem fieldsB : (List.range 700).all fieldsB1 = true := by kernel_rfl
theorem fieldsOk : Fields Tryz.prog := by
  intro t fs ht hu
  have h1 := List.all_eq_true.1 fieldsB t (List.mem_range.2 ht)
  unfold fieldsB1 at h1
  rw [hu] at h1
  exact Option.isSome_iff_exists.1 h1
theorem good : Ev.Good Tryz.prog := ⟨fieldsOk, namesOk, mixedOk⟩
end Go.Proofs.Tryz
namespace Go.Proofs.Tryz
open Go Go.Ev Go.RowKit Go.Extern.Stop Go.Stop Go.Extern

theorem arr1 {a : Array Value} (h : a.size = 1) : ∃ x, a = #[x] := by
  obtain ⟨l⟩ := a
  match l, h with
  | [x], _ => exact ⟨x, rfl⟩
theorem arr2 {a : Array Value} (h : a.size = 2) : ∃ x y, a = #[x, y] := by
  obtain ⟨l⟩ := a
  match l, h with
  | [x, y], _ => exact ⟨x, y, rfl⟩

theorem idle80 : Idle Tryz.prog 80 1 := by
  refine ⟨⟨_, _, Tryz.func80, rfl⟩, fun args w hs => ?_⟩
  obtain ⟨x, rfl⟩ := arr1 hs
  refine callsD_of_wpS Tryz.func80 rfl fun c₀ cs hu => ?_
  apply wpS_seq
  apply wpS_region
  simp [wpOpsS, go_sem, recoverD, hu, Tryz.ntmps80, Exit.thenS]
  apply wpS_seq
  apply wpS_region
  simp [wpOpsS, go_sem, Exit.thenS]
  refine wpS_cond (t := false) (by simp [Act.eval, Array.replicate]) ?_
  simp
  refine wpS_of_wp (wp_skip ?_)
  cases c₀
  simp_all [bodyPostS, results, Tryz.results80, Exit.thenS]
theorem idle117 : Idle Tryz.prog 117 2 := by
  refine ⟨⟨_, _, Tryz.func117, rfl⟩, fun args w hs => ?_⟩
  obtain ⟨x, y, rfl⟩ := arr2 hs
  refine callsD_of_wpS Tryz.func117 rfl fun c₀ cs hu => ?_
  apply wpS_seq
  apply wpS_region
  simp [wpOpsS, go_sem, recoverD, hu, Tryz.ntmps117, Exit.thenS]
  apply wpS_seq
  apply wpS_region
  simp [wpOpsS, go_sem, Exit.thenS]
  refine wpS_cond (t := false) (by simp [Act.eval, Array.replicate]) ?_
  simp
  refine wpS_of_wp (wp_skip ?_)
  cases c₀
  simp_all [bodyPostS, results, Tryz.results117, Exit.thenS]
theorem idle488 : Idle Tryz.prog 488 2 := by
  refine ⟨⟨_, _, Tryz.func488, rfl⟩, fun args w hs => ?_⟩
  obtain ⟨x, y, rfl⟩ := arr2 hs
  refine callsD_of_wpS Tryz.func488 rfl fun c₀ cs hu => ?_
  apply wpS_seq
  apply wpS_region
  simp [wpOpsS, go_sem, recoverD, hu, Tryz.ntmps488, Exit.thenS]
  refine wpS_cond (t := false) (by simp [Act.eval, Array.replicate]) ?_
  simp
  refine wpS_of_wp (wp_skip ?_)
  cases c₀
  simp_all [bodyPostS, results, Tryz.results488, Exit.thenS]
theorem idle521 : Idle Tryz.prog 521 1 := by
  refine ⟨⟨_, _, Tryz.func521, rfl⟩, fun args w hs => ?_⟩
  obtain ⟨x, rfl⟩ := arr1 hs
  refine callsD_of_wpS Tryz.func521 rfl fun c₀ cs hu => ?_
  apply wpS_seq
  apply wpS_region
  simp [wpOpsS, go_sem, recoverD, hu, Tryz.ntmps521, Exit.thenS]
  apply wpS_seq
  apply wpS_region
  simp [wpOpsS, go_sem, Exit.thenS]
  refine wpS_cond (t := false) (by simp [Act.eval, Array.replicate]) ?_
  simp
  refine wpS_of_wp (wp_skip ?_)
  cases c₀
  simp_all [bodyPostS, results, Tryz.results521, Exit.thenS]
end Go.Proofs.Tryz
namespace Go.Proofs.Tryz
open Go Go.Ev Go.RowKit Go.Shelf Go.Lib
noncomputable section

def firstL : List V := [.int .u8 (.ofNat 240), .int .u8 (.ofNat 240), .int .u8 (.ofNat 240), .int .u8 (.ofNat 240), .int .u8 (.ofNat 240), .int .u8 (.ofNat 240), .int .u8 (.ofNat 240), .int .u8 (.ofNat 240), .int .u8 (.ofNat 240), .int .u8 (.ofNat 240), .int .u8 (.ofNat 240), .int .u8 (.ofNat 240), .int .u8 (.ofNat 240), .int .u8 (.ofNat 240), .int .u8 (.ofNat 240), .int .u8 (.ofNat 240), .int .u8 (.ofNat 240), .int .u8 (.ofNat 240), .int .u8 (.ofNat 240), .int .u8 (.ofNat 240), .int .u8 (.ofNat 240), .int .u8 (.ofNat 240), .int .u8 (.ofNat 240), .int .u8 (.ofNat 240), .int .u8 (.ofNat 240), .int .u8 (.ofNat 240), .int .u8 (.ofNat 240), .int .u8 (.ofNat 240), .int .u8 (.ofNat 240), .int .u8 (.ofNat 240), .int .u8 (.ofNat 240), .int .u8 (.ofNat 240), .int .u8 (.ofNat 240), .int .u8 (.ofNat 240), .int .u8 (.ofNat 240), .int .u8 (.ofNat 240), .int .u8 (.ofNat 240), .int .u8 (.ofNat 240), .int .u8 (.ofNat 240), .int .u8 (.ofNat 240), .int .u8 (.ofNat 240), .int .u8 (.ofNat 240), .int .u8 (.ofNat 240), .int .u8 (.ofNat 240), .int .u8 (.ofNat 240), .int .u8 (.ofNat 240), .int .u8 (.ofNat 240), .int .u8 (.ofNat 240), .int .u8 (.ofNat 240), .int .u8 (.ofNat 240), .int .u8 (.ofNat 240), .int .u8 (.ofNat 240), .int .u8 (.ofNat 240), .int .u8 (.ofNat 240), .int .u8 (.ofNat 240), .int .u8 (.ofNat 240), .int .u8 (.ofNat 240), .int .u8 (.ofNat 240), .int .u8 (.ofNat 240), .int .u8 (.ofNat 240), .int .u8 (.ofNat 240), .int .u8 (.ofNat 240), .int .u8 (.ofNat 240), .int .u8 (.ofNat 240), .int .u8 (.ofNat 240), .int .u8 (.ofNat 240), .int .u8 (.ofNat 240), .int .u8 (.ofNat 240), .int .u8 (.ofNat 240), .int .u8 (.ofNat 240), .int .u8 (.ofNat 240), .int .u8 (.ofNat 240), .int .u8 (.ofNat 240), .int .u8 (.ofNat 240), .int .u8 (.ofNat 240), .int .u8 (.ofNat 240), .int .u8 (.ofNat 240), .int .u8 (.ofNat 240), .int .u8 (.ofNat 240), .int .u8 (.ofNat 240), .int .u8 (.ofNat 240), .int .u8 (.ofNat 240), .int .u8 (.ofNat 240), .int .u8 (.ofNat 240), .int .u8 (.ofNat 240), .int .u8 (.ofNat 240), .int .u8 (.ofNat 240), .int .u8 (.ofNat 240), .int .u8 (.ofNat 240), .int .u8 (.ofNat 240), .int .u8 (.ofNat 240), .int .u8 (.ofNat 240), .int .u8 (.ofNat 240), .int .u8 (.ofNat 240), .int .u8 (.ofNat 240), .int .u8 (.ofNat 240), .int .u8 (.ofNat 240), .int .u8 (.ofNat 240), .int .u8 (.ofNat 240), .int .u8 (.ofNat 240), .int .u8 (.ofNat 240), .int .u8 (.ofNat 240), .int .u8 (.ofNat 240), .int .u8 (.ofNat 240), .int .u8 (.ofNat 240), .int .u8 (.ofNat 240), .int .u8 (.ofNat 240), .int .u8 (.ofNat 240), .int .u8 (.ofNat 240), .int .u8 (.ofNat 240), .int .u8 (.ofNat 240), .int .u8 (.ofNat 240), .int .u8 (.ofNat 240), .int .u8 (.ofNat 240), .int .u8 (.ofNat 240), .int .u8 (.ofNat 240), .int .u8 (.ofNat 240), .int .u8 (.ofNat 240), .int .u8 (.ofNat 240), .int .u8 (.ofNat 240), .int .u8 (.ofNat 240), .int .u8 (.ofNat 240), .int .u8 (.ofNat 240), .int .u8 (.ofNat 240), .int .u8 (.ofNat 240), .int .u8 (.ofNat 240), .int .u8 (.ofNat 240), .int .u8 (.ofNat 240), .int .u8 (.ofNat 241), .int .u8 (.ofNat 241), .int .u8 (.ofNat 241), .int .u8 (.ofNat 241), .int .u8 (.ofNat 241), .int .u8 (.ofNat 241), .int .u8 (.ofNat 241), .int .u8 (.ofNat 241), .int .u8 (.ofNat 241), .int .u8 (.ofNat 241), .int .u8 (.ofNat 241), .int .u8 (.ofNat 241), .int .u8 (.ofNat 241), .int .u8 (.ofNat 241), .int .u8 (.ofNat 241), .int .u8 (.ofNat 241), .int .u8 (.ofNat 241), .int .u8 (.ofNat 241), .int .u8 (.ofNat 241), .int .u8 (.ofNat 241), .int .u8 (.ofNat 241), .int .u8 (.ofNat 241), .int .u8 (.ofNat 241), .int .u8 (.ofNat 241), .int .u8 (.ofNat 241), .int .u8 (.ofNat 241), .int .u8 (.ofNat 241), .int .u8 (.ofNat 241), .int .u8 (.ofNat 241), .int .u8 (.ofNat 241), .int .u8 (.ofNat 241), .int .u8 (.ofNat 241), .int .u8 (.ofNat 241), .int .u8 (.ofNat 241), .int .u8 (.ofNat 241), .int .u8 (.ofNat 241), .int .u8 (.ofNat 241), .int .u8 (.ofNat 241), .int .u8 (.ofNat 241), .int .u8 (.ofNat 241), .int .u8 (.ofNat 241), .int .u8 (.ofNat 241), .int .u8 (.ofNat 241), .int .u8 (.ofNat 241), .int .u8 (.ofNat 241), .int .u8 (.ofNat 241), .int .u8 (.ofNat 241), .int .u8 (.ofNat 241), .int .u8 (.ofNat 241), .int .u8 (.ofNat 241), .int .u8 (.ofNat 241), .int .u8 (.ofNat 241), .int .u8 (.ofNat 241), .int .u8 (.ofNat 241), .int .u8 (.ofNat 241), .int .u8 (.ofNat 241), .int .u8 (.ofNat 241), .int .u8 (.ofNat 241), .int .u8 (.ofNat 241), .int .u8 (.ofNat 241), .int .u8 (.ofNat 241), .int .u8 (.ofNat 241), .int .u8 (.ofNat 241), .int .u8 (.ofNat 241), .int .u8 (.ofNat 241), .int .u8 (.ofNat 241), .int .u8 (.ofNat 2), .int .u8 (.ofNat 2), .int .u8 (.ofNat 2), .int .u8 (.ofNat 2), .int .u8 (.ofNat 2), .int .u8 (.ofNat 2), .int .u8 (.ofNat 2), .int .u8 (.ofNat 2), .int .u8 (.ofNat 2), .int .u8 (.ofNat 2), .int .u8 (.ofNat 2), .int .u8 (.ofNat 2), .int .u8 (.ofNat 2), .int .u8 (.ofNat 2), .int .u8 (.ofNat 2), .int .u8 (.ofNat 2), .int .u8 (.ofNat 2), .int .u8 (.ofNat 2), .int .u8 (.ofNat 2), .int .u8 (.ofNat 2), .int .u8 (.ofNat 2), .int .u8 (.ofNat 2), .int .u8 (.ofNat 2), .int .u8 (.ofNat 2), .int .u8 (.ofNat 2), .int .u8 (.ofNat 2), .int .u8 (.ofNat 2), .int .u8 (.ofNat 2), .int .u8 (.ofNat 2), .int .u8 (.ofNat 2), .int .u8 (.ofNat 19), .int .u8 (.ofNat 3), .int .u8 (.ofNat 3), .int .u8 (.ofNat 3), .int .u8 (.ofNat 3), .int .u8 (.ofNat 3), .int .u8 (.ofNat 3), .int .u8 (.ofNat 3), .int .u8 (.ofNat 3), .int .u8 (.ofNat 3), .int .u8 (.ofNat 3), .int .u8 (.ofNat 3), .int .u8 (.ofNat 3), .int .u8 (.ofNat 35), .int .u8 (.ofNat 3), .int .u8 (.ofNat 3), .int .u8 (.ofNat 52), .int .u8 (.ofNat 4), .int .u8 (.ofNat 4), .int .u8 (.ofNat 4), .int .u8 (.ofNat 68), .int .u8 (.ofNat 241), .int .u8 (.ofNat 241), .int .u8 (.ofNat 241), .int .u8 (.ofNat 241), .int .u8 (.ofNat 241), .int .u8 (.ofNat 241), .int .u8 (.ofNat 241), .int .u8 (.ofNat 241), .int .u8 (.ofNat 241), .int .u8 (.ofNat 241), .int .u8 (.ofNat 241)]
def accL : List V := [.int .u8 (.ofNat 128), .int .u8 (.ofNat 191), .int .u8 (.ofNat 160), .int .u8 (.ofNat 191), .int .u8 (.ofNat 128), .int .u8 (.ofNat 159), .int .u8 (.ofNat 144), .int .u8 (.ofNat 191), .int .u8 (.ofNat 128), .int .u8 (.ofNat 143), .int .u8 (.ofNat 0), .int .u8 (.ofNat 0), .int .u8 (.ofNat 0), .int .u8 (.ofNat 0), .int .u8 (.ofNat 0), .int .u8 (.ofNat 0), .int .u8 (.ofNat 0), .int .u8 (.ofNat 0), .int .u8 (.ofNat 0), .int .u8 (.ofNat 0), .int .u8 (.ofNat 0), .int .u8 (.ofNat 0), .int .u8 (.ofNat 0), .int .u8 (.ofNat 0), .int .u8 (.ofNat 0), .int .u8 (.ofNat 0), .int .u8 (.ofNat 0), .int .u8 (.ofNat 0), .int .u8 (.ofNat 0), .int .u8 (.ofNat 0), .int .u8 (.ofNat 0), .int .u8 (.ofNat 0)]
theorem firstL_at : (List.range 256).map (fun c => V.int .u8 (firstT c : Int)) = firstL := by kernel_rfl
theorem accL_at : (List.range 16).flatMap (fun i => [V.int .u8 (accLo i : Int), V.int .u8 (accHi i : Int)]) = accL := by kernel_rfl
def tabsK (h : Hp) (K : Bool) : Bool := getK h (BId.of 2) fun x => cellsK x fun ro cs => grd (eqVs cs firstL) (getK h (BId.of 3) fun x => cellsK x fun ro cs => grd (eqVs cs accL) K)
theorem firstL_get (c : Nat) (h : c < 256) : firstL[c]? = some (.int .u8 (firstT c : Int)) := by
  rw [← firstL_at]; simp [h]
theorem accL_all : (List.range 16).all (fun i => (match accL[2 * i]? with | some v => eqV v (.int .u8 (accLo i : Int)) | none => false) && (match accL[2 * i + 1]? with | some v => eqV v (.int .u8 (accHi i : Int)) | none => false)) = true := by kernel_rfl
theorem accL_get (i : Nat) (h : i < 16) : accL[2 * i]? = some (.int .u8 (accLo i : Int)) ∧ accL[2 * i + 1]? = some (.int .u8 (accHi i : Int)) := by
  have h1 := List.all_eq_true.1 accL_all i (List.mem_range.2 h)
  rw [Bool.and_eq_true] at h1
  obtain ⟨h2, h3⟩ := h1
  constructor
  · cases hc : accL[2 * i]? with
    | none => rw [hc] at h2; cases h2
    | some v => rw [hc] at h2; rw [eqV_eq h2]
  · cases hc : accL[2 * i + 1]? with
    | none => rw [hc] at h3; cases h3
    | some v => rw [hc] at h3; rw [eqV_eq h3]
theorem int_of {m : M} {k : IntKind} {n : Int} {v : Value} (h : VRel m (.int k n) v) : v = .int k n := by cases h; rfl
theorem tabsK_ok {G : Fr} {m : M} {h : Hp} {w : World} (hh : HRel G m h w) (hg : GRel m) {K : Bool} (e : tabsK h K = true) : Utf8Tabs 2 3 w ∧ K = true := by
  obtain ⟨x, hx, e1⟩ := getK_inv (show getK h (BId.of 2) _ = true from e)
  obtain ⟨ro, cs, rfl, e2⟩ := cellsK_inv e1
  obtain ⟨e3, e4⟩ := grd_inv e2
  have e3 := eqVs_eq e3
  subst e3
  obtain ⟨y, hy, e5⟩ := getK_inv (show getK h (BId.of 3) _ = true from e4)
  obtain ⟨ro', cs', rfl, e6⟩ := cellsK_inv e5
  obtain ⟨e7, e8⟩ := grd_inv e6
  have e7 := eqVs_eq e7
  subst e7
  have get : ∀ g, g < 64 → ∀ ro cs, h.at (BId.of g) = some (.cells ro cs) → ∀ i k n, cs[i]? = some (.int k n) → w.cell? ⟨g, i, none⟩ = some (.int k n) := by
    intro g hg6 ro cs hcs i k n hi
    obtain ⟨v', hc, rv, _⟩ := hh.cell hcs (hg g hg6) (i := i) (v := .int k n) (by simpa using hi)
    rw [int_of rv] at hc
    have : (Addr.add ⟨g, 0, none⟩ i) = ⟨g, i, none⟩ := by
      unfold Addr.add; split
      · subst_vars; rfl
      · simp
    rwa [this] at hc
  exact ⟨⟨fun c hc => get 2 (by omega) _ _ hx c _ _ (firstL_get c hc), fun i hi => ⟨get 3 (by omega) _ _ hy _ _ _ (accL_get i hi).1, get 3 (by omega) _ _ hy _ _ _ (accL_get i hi).2⟩⟩, e8⟩

theorem extra : Builder.Extra Tryz.prog Tryz.laysMap_ren := {
  sizeBuilder := by kernel_rfl
  liesBuilder := by kernel_rfl
  t5 := Tryz.laysMap.t5
  a5 := Tryz.laysMap.a5
  z5 := Tryz.laysMap.z5
  v5 := Tryz.laysMap.v5
  infoByte := by kernel_rfl
  cellsByte := by kernel_rfl
  sizeByte := by kernel_rfl
  neB5 := by decide }
set_option maxHeartbeats 1000000 in
set_option maxRecDepth 1000000 in
theorem clo345 (W : World) (x : Nat) (hx : x ≤ 1114111) : FnGives Tryz.prog 345 #[] #[encR x] (.int .i32 ((x : Int) + 49)) W := by
  show Calls Tryz.prog 345 #[.int .i32 (x : Int)] W _
  go_enter Tryz.func345, Tryz.ntmps345
  go_wp2
  go_ret
  exact ⟨by simp; omega, 0, rfl⟩
theorem map_one (w : World) (hT : Utf8Tabs 2 3 w) : Calls Tryz.prog 344 #[.func (.func 345) #[] #[], .string ⟨#[48]⟩] w fun e w' => e = .returned (.string ⟨#[97]⟩) ∧ Below w.heap.size w w' := by
  have := Any.strings_Map_runes Tryz.laysMap extra 345 #[] (enters_of Tryz.func345 (by kernel_rfl) rfl) (fun x => x + 49) ⟨#[48]⟩ w (by decide) (fun W x hx _ => clo345 W x hx) (fun x hx => ⟨by omega, by omega⟩) hT
  have e : mapD (fun x => x + 49) (⟨#[48]⟩ : ByteArray).data.toList = [97] := by decide +kernel
  rw [e] at this
  exact this
theorem itoa_zero (w : World) : Calls Tryz.prog 334 #[.int .i64 0] w fun e w' => e = .returned (.string ⟨#[48]⟩) ∧ w' = w := by
  have := Any.strconv_Itoa_small Tryz.laysItoa 0 (by decide) w
  have e : decDigits 0 = [48] := by decide +kernel
  rw [e] at this
  exact this
def sM (args : List V) (h : Hp) (K : V → Hp → Bool) : Bool := fst2 args fun f s => grd (eqV f (.fn (.func 345) [] [])) (grd (eqV s (.str [48])) (tabsK h (K (.str [97]) h)))
def sI (args : List V) (h : Hp) (K : V → Hp → Bool) : Bool := fst1 args fun v => grd (eqV v (.int .i64 (.ofNat 0))) (K (.str [48]) h)
theorem sM_ok (args : List V) (h : Hp) (K : V → Hp → Bool) (e : sM args h K = true) (G : Fr) (m : M) (w : World) (args' : List Value) (hh : HRel G m h w) (hg : GRel m) (ra : LRel m args args') : Calls Tryz.prog 344 args'.toArray w (Ret G m h K) := by
  obtain ⟨f, s, rfl, e1⟩ := fst2_inv (show fst2 args _ = true from e)
  obtain ⟨e2, e3⟩ := grd_inv e1
  obtain ⟨e4, e5⟩ := grd_inv e3
  rw [eqV_eq e2, eqV_eq e4] at ra
  obtain ⟨hT, hK⟩ := tabsK_ok hh hg e5
  cases ra with
  | cons _ v' _ _ rf ra =>
    cases ra with
    | cons _ u' _ _ ru ra =>
      cases ra
      cases rf with
      | fn _ _ _ l' k' r1 r2 =>
        cases r1
        cases r2
        cases ru with
        | str _ s hs =>
          obtain rfl : s = ⟨#[48]⟩ := by
            have h1 : s.data.toList = [48] := by
              cases hl : s.data.toList with
              | nil => rw [hl] at hs; cases hs
              | cons x l =>
                rw [hl] at hs
                cases l with
                | nil => rw [UInt8.toNat_inj.1 (show x.toNat = (48 : UInt8).toNat by simpa using hs)]
                | cons => simp at hs
            have h2 : s.data = #[48] := Array.toList_inj.1 (by rw [h1])
            cases s
            cases h2
            rfl
          refine (map_one w hT).mono fun en w' hr => ?_
          obtain ⟨rfl, hb⟩ := hr
          exact ret_below hh hb (.str _ _ rfl) hK
theorem sI_ok (args : List V) (h : Hp) (K : V → Hp → Bool) (e : sI args h K = true) (G : Fr) (m : M) (w : World) (args' : List Value) (hh : HRel G m h w) (hg : GRel m) (ra : LRel m args args') : Calls Tryz.prog 334 args'.toArray w (Ret G m h K) := by
  obtain ⟨v, rfl, e1⟩ := fst1_inv (show fst1 args _ = true from e)
  obtain ⟨e2, e3⟩ := grd_inv e1
  rw [eqV_eq e2] at ra
  cases ra with
  | cons _ v' _ _ rf ra =>
    cases ra
    cases rf
    refine (itoa_zero w).mono fun en w' hr => ?_
    obtain ⟨rfl, rfl⟩ := hr
    exact ret_below hh (Below.refl _ _) (.str _ _ rfl) e3
end
end Go.Proofs.Tryz
namespace Go.Proofs.Tryz
open Go Go.Ev Go.RowKit Go.Shelf
attribute [local go_sem] Oper.semAt_some

noncomputable section
/-- internal/stringslite.IndexByte told at one place -/
def sB (args : List V) (h : Hp) (K : V → Hp → Bool) : Bool := fst2 args fun s c => grd (eqV s (.str [97])) (grd (eqV c (.int .u8 (.ofNat 47))) (K (.int .i64 (.negSucc 0)) h))
def T2 : Ev.Told := ⟨fun f => Bool.rec (motive := fun _ => Option (List V → Hp → (V → Hp → Bool) → Bool)) none (some sB) (Nat.beq f 636), fun _ _ => false⟩
theorem str_is {m : M} {l : List UInt8} {v : Value} (h : VRel m (.str (l.map UInt8.toNat)) v) : v = .string ⟨l.toArray⟩ := by
  cases h with
  | str _ s hs =>
    have h1 : s.data.toList = l := by
      have inj : ∀ {a b : List UInt8}, a.map UInt8.toNat = b.map UInt8.toNat → a = b := fun {a b} h => (List.map_inj_right (fun _ _ h => UInt8.toNat_inj.1 h)).1 h
      exact inj hs
    have h2 : s.data = l.toArray := Array.toList_inj.1 (by rw [h1])
    cases s
    cases h2
    rfl
theorem index_a (w : World) : Calls Tryz.prog 636 #[.string ⟨#[97]⟩, .int .u8 47] w fun e w' => e = .returned (.int .i64 (-1)) ∧ w' = w := by
  have := Any.stringslite_IndexByte Tryz.laysIndexByte ⟨#[97]⟩ 47 w
  have e : Lib.indexByte (⟨#[97]⟩ : ByteArray).data.toList (47 : Int).toNat.toUInt8 = -1 := by decide +kernel
  rw [e] at this
  exact this
theorem told2 : ToldOk Tryz.prog T2 := by
  refine ⟨fun f s h => ?_, fun f l h => ?_⟩
  · have h : Bool.rec (motive := fun _ => Option (List V → Hp → (V → Hp → Bool) → Bool)) none (some sB) (Nat.beq f 636) = some s := h
    cases hb : Nat.beq f 636 with
    | false => rw [hb] at h; cases h
    | true =>
      rw [hb] at h
      cases h
      obtain rfl := Nat.eq_of_beq_eq_true hb
      refine ⟨⟨_, _, Tryz.func636, rfl⟩, fun args h K e G m w args' hh hg ra => ?_⟩
      obtain ⟨u, v, rfl, e1⟩ := fst2_inv (show fst2 args _ = true from e)
      obtain ⟨e2, e3⟩ := grd_inv e1
      obtain ⟨e4, e5⟩ := grd_inv e3
      rw [eqV_eq e2, eqV_eq e4] at ra
      cases ra with
      | cons _ v' _ _ ru ra =>
        cases ra with
        | cons _ u' _ _ rv ra =>
          cases ra
          rw [str_is (l := [97]) ru]
          cases rv
          refine (index_a w).mono fun en w' hr => ?_
          obtain ⟨rfl, rfl⟩ := hr
          exact ret_below hh (Below.refl _ _) (.int .i64 (-1)) e5
  · cases h
theorem e517 : callK Tryz.prog T2 8 517 [.str [97]] hE (fun v _ => eqV v (.bool true)) = true := by kernel_rfl
theorem e459 : callK Tryz.prog T2 12 459 [.str [97], .str [47]] hE (fun v _ => eqV v (.tup [.str [97], .str [], .bool false])) = true := by kernel_rfl
theorem part_a (w : World) : Calls Tryz.prog 517 #[.string ⟨#[97]⟩] w fun e w' => e = .returned (.bool true) ∧ Below w.heap.size w w' := by
  refine (call_closed (callK_ok good told2 8) (.cons _ _ _ _ (.str [97] ⟨#[97]⟩ rfl) .nil) e517 w).mono fun en w' hr => ?_
  obtain ⟨hb, v, v', h', m', rfl, rv, hK⟩ := hr
  rw [eqV_eq hK] at rv
  cases rv
  exact ⟨rfl, hb⟩
theorem cut_a (w : World) : Calls Tryz.prog 459 #[.string ⟨#[97]⟩, .string ⟨#[47]⟩] w fun e w' => e = .returned (.tuple #[.string ⟨#[97]⟩, .string ⟨#[]⟩, .bool false]) ∧ Below w.heap.size w w' := by
  refine (call_closed (callK_ok good told2 12) (.cons _ _ _ _ (.str [97] ⟨#[97]⟩ rfl) (.cons _ _ _ _ (.str [47] ⟨#[47]⟩ rfl) .nil)) e459 w).mono fun en w' hr => ?_
  obtain ⟨hb, v, v', h', m', rfl, rv, hK⟩ := hr
  rw [eqV_eq hK] at rv
  cases rv with
  | tup _ _ r =>
    cases r with
    | cons _ _ _ _ r1 r =>
      cases r with
      | cons _ _ _ _ r2 r =>
        cases r with
        | cons _ _ _ _ r3 r =>
          cases r
          rw [str_is (l := [97]) r1, str_is (l := []) r2]
          cases r3
          exact ⟨rfl, hb⟩

set_option maxRecDepth 100000 in
set_option maxHeartbeats 2000000 in
theorem parts1_root (F : Fence) (n : Nat) (h7 : F.fn 581) (hro : F.round = none) (l Bs : Nat) (J : List Unit → World → Prop) (W : World) (hBs : W.cell? ⟨Bs, 0, none⟩ = some (.string ⟨#[47]⟩)) (h0 : J [] W) :
    CallsIn F n Tryz.prog 581 #[.func (.yield l) #[] #[], .pointer (some ⟨Bs, 0, none⟩)] W fun e W' => (∃ v, e = .returned v) ∧ J [] W' := by
  refine callsIn_of_wp Tryz.func581 rfl h7 ?_ hro
  simp only [Tryz.ntmps581, List.size_toArray, List.length_cons, List.length_nil, Nat.reduceAdd, Nat.reduceSub, Array.replicate_succ, Array.replicate_zero, List.push_toArray, List.append_toArray, List.nil_append, List.cons_append]
  gi_wp2
  refine wpIn_loop (fun a' w' => w' = _ ∧ a' = _) (fun _ _ => 0) ⟨rfl, rfl⟩ ?_
  rintro _ _ ⟨rfl, rfl⟩
  gi_wp2
  go_end0
  exact ⟨⟨_, rfl⟩, h0⟩
set_option maxRecDepth 100000 in
set_option maxHeartbeats 2000000 in
theorem parts1_a (F : Fence) (n : Nat) (h7 : F.fn 581) (h8 : F.fn 459) (hro : F.round = none) (hn : 2 ≤ n) (h459 : ∀ w, CallsIn F (n - 1) Tryz.prog 459 #[.string ⟨#[97]⟩, .string ⟨#[47]⟩] w fun e w' => e = .returned (.tuple #[.string ⟨#[97]⟩, .string ⟨#[]⟩, .bool false]) ∧ Below w.heap.size w w') (l Bs n₀ : Nat) (hb : Bs < n₀) (W : World) (hn₀ : n₀ ≤ W.heap.size) (J Jx : List Unit → World → Prop) (hJo : ∀ pre w w', Below w.heap.size w w' → J pre w → J pre w')
    (hY : ∀ pre x W, J pre W → pre.length < 1 → YieldAt F (n - 1) Tryz.prog l #[.string ⟨#[97]⟩] W fun e W' =>
      (e = .returned (.bool true) ∧ J (pre ++ [x]) W' ∧ Below n₀ W W') ∨ (e = .returned (.bool false) ∧ Jx (pre ++ [x]) W'))
    (hBs : W.cell? ⟨Bs, 0, none⟩ = some (.string ⟨#[47, 97]⟩)) (h0 : J [] W) :
    CallsIn F n Tryz.prog 581 #[.func (.yield l) #[] #[], .pointer (some ⟨Bs, 0, none⟩)] W fun e W' => (∃ v, e = .returned v) ∧ ((∃ ys, ys = [()] ∧ J ys W') ∨ (∃ pre, pre = [()] ∧ Jx pre W')) := by
  refine callsIn_of_wp Tryz.func581 rfl h7 ?_ hro
  simp only [Tryz.ntmps581, List.size_toArray, List.length_cons, List.length_nil, Nat.reduceAdd, Nat.reduceSub, Array.replicate_succ, Array.replicate_zero, List.push_toArray, List.append_toArray, List.nil_append, List.cons_append]
  gi_wp2
  refine wpIn_loop (fun a' w' => w' = _ ∧ a' = _) (fun _ _ => 0) ⟨rfl, rfl⟩ ?_
  rintro _ _ ⟨rfl, rfl⟩
  have hmx : Tryz.prog.follows .mixedOrders = true := mixedOk
  gi_wp2
  refine ⟨fun _ => by omega, (h459 _).mono ?_⟩
  rintro e W1 ⟨rfl, hb1⟩
  have hBs1 : W1.cell? ⟨Bs, 0, none⟩ = some (.string ⟨#[47, 97]⟩) := (hb1.cell (p := ⟨Bs, 0, none⟩) (Nat.lt_of_lt_of_le hb hn₀)).trans hBs
  have hJ1 : J [] W1 := hJo _ _ _ hb1 h0
  obtain ⟨fn, tmps, assign, body, hy, hR⟩ := hY [] () W1 hJ1 (by simp)
  gi_wp2
  refine ⟨fun _ => by omega, hR.mono ?_⟩
  rintro e W2 (⟨rfl, hJ2, hk2⟩ | ⟨rfl, hx2⟩)
  · have hBs2 : W2.cell? ⟨Bs, 0, none⟩ = some (.string ⟨#[47, 97]⟩) := (hk2.cell (p := ⟨Bs, 0, none⟩) hb).trans hBs1
    gi_wp2
    refine bodyPost_ret (results_none rfl _ _ _) rfl ?_
    exact ⟨⟨_, rfl⟩, .inl ⟨_, rfl, hJ2⟩⟩
  · gi_wp2
    refine bodyPost_ret (results_none rfl _ _ _) rfl ?_
    exact ⟨⟨_, rfl⟩, .inr ⟨_, rfl, hx2⟩⟩
theorem abides {J : List Unit → World → Prop} {B : Nat} (h : AbidesFrom B J) (pre : List Unit) (w w' : World) (hb : Below w.heap.size w w') (hj : J pre w) : J pre w' :=
  h pre w w' none hj ⟨hb.os, hb.tape, hb.output, hb.size, fun k hk _ => hb.block k hk⟩ (fun r e => by cases e)
theorem stops_root (F : Fence) (n : Nat) (h7 : F.fn 581) (hro : F.round = none) (Bs : Nat) (w : World) (hBs : Bs < w.heap.size) (hc : w.cell? ⟨Bs, 0, none⟩ = some (.string ⟨#[47]⟩)) :
    SeqStopsK F n Tryz.prog 581 #[.pointer (some ⟨Bs, 0, none⟩)] (fun _ : Unit => #[.string ⟨#[97]⟩]) (Below w.heap.size) (fun ys => ys = []) (fun pre => False) 1 w := fun l J Jx W hW _ _ hY h0 => by
  have hc' := (hW.cell (p := ⟨Bs, 0, none⟩) hBs).trans hc
  exact (parts1_root F n h7 hro l Bs J W hc' h0).mono fun e W' ⟨he, hj⟩ => ⟨he, .inl ⟨_, rfl, hj⟩⟩
theorem stops_a (F : Fence) (n : Nat) (h7 : F.fn 581) (h8 : F.fn 459) (hro : F.round = none) (hn : 2 ≤ n) (h459 : ∀ w, CallsIn F (n - 1) Tryz.prog 459 #[.string ⟨#[97]⟩, .string ⟨#[47]⟩] w fun e w' => e = .returned (.tuple #[.string ⟨#[97]⟩, .string ⟨#[]⟩, .bool false]) ∧ Below w.heap.size w w') (Bs : Nat) (w : World) (hBs : Bs < w.heap.size) (hc : w.cell? ⟨Bs, 0, none⟩ = some (.string ⟨#[47, 97]⟩)) :
    SeqStopsK F n Tryz.prog 581 #[.pointer (some ⟨Bs, 0, none⟩)] (fun _ : Unit => #[.string ⟨#[97]⟩]) (Below w.heap.size) (fun ys => ys = [()]) (fun pre => pre = [()]) 1 w := fun l J Jx W hW hJ _ hY h0 => by
  have hc' := (hW.cell (p := ⟨Bs, 0, none⟩) hBs).trans hc
  exact parts1_a F n h7 h8 hro hn h459 l Bs w.heap.size hBs W hW.size J Jx (abides hJ) hY hc' h0
theorem lt_of_cell {W : World} {b i : Nat} {v : Value} (h : W.cell? ⟨b, i, none⟩ = some v) : b < W.heap.size := by
  rcases Nat.lt_or_ge b W.heap.size with h1 | h1
  · exact h1
  · simp [World.cell?, Array.getElem?_eq_none h1] at h
set_option maxHeartbeats 1000000 in
theorem parts_in (F : Fence) (n : Nat) (h5 : F.fn 516) (hro : F.round = none) (p : ByteArray) (w : World) :
    CallsIn F n Tryz.prog 516 #[.string p] w fun e w' => e = .returned (.func (.func 581) #[] #[.pointer (some ⟨w.heap.size, 0, none⟩)]) ∧ w' = w.alloc (.cells #[.string p] 9) := by
  refine callsIn_of_wp Tryz.func516 rfl h5 ?_ hro
  simp only [Tryz.ntmps516, List.size_toArray, List.length_cons, List.length_nil, Nat.reduceAdd, Nat.reduceSub, Array.replicate_succ, Array.replicate_zero, List.push_toArray, List.append_toArray, List.nil_append, List.cons_append]
  gi_wp2
  go_ret
  exact ⟨rfl, rfl⟩
set_option maxRecDepth 100000 in
set_option maxHeartbeats 2000000 in
theorem check_a (w : World) : Calls Tryz.prog 400 #[.string ⟨#[47, 97]⟩] w fun e w' => e = .returned (.bool true) ∧ Below w.heap.size w w' := by
  refine (callsIn_wide (n := 9)).1 ?_
  refine callsIn_of_wp_marks Tryz.func400 rfl trivial ?_ rfl
  simp only [Tryz.ntmps400, List.size_toArray, List.length_cons, List.length_nil, Nat.reduceAdd, Nat.reduceSub, Array.replicate_succ, Array.replicate_zero, List.push_toArray, List.append_toArray, List.nil_append, List.cons_append]
  have hmx : Tryz.prog.follows .mixedOrders = true := mixedOk
  gi_wp2
  refine ⟨trivial, (parts_in Fence.wide 8 trivial rfl _ _).mono ?_⟩
  rintro e w1 ⟨rfl, rfl⟩
  gi_wp2
  have hb0 : ((w.alloc (.cells #[.bool false] 4)).alloc (.cells #[.string ⟨#[47, 97]⟩] 9)).heap[w.heap.size]? = some (.cells #[.bool false] 4) := (Below.heap_alloc _ _ _ (by simp)).trans (World.alloc_heap_new w _)
  have hb1 : ((w.alloc (.cells #[.bool false] 4)).alloc (.cells #[.string ⟨#[47, 97]⟩] 9)).heap[w.heap.size + 1]? = some (.cells #[.string ⟨#[47, 97]⟩] 9) := by
    have := World.alloc_heap_new (w.alloc (.cells #[.bool false] 4)) (.cells #[.string ⟨#[47, 97]⟩] 9)
    rwa [World.size_alloc] at this
  refine wpIn_rangeFunc_ownF rfl (by omega) (gf := 581) (lb := #[.pointer (some ⟨w.heap.size + 1, 0, none⟩)]) (by simp [Act.eval]) trivial (enters_of Tryz.func581 (by kernel_rfl) rfl)
    (stops_a Fence.wide 8 trivial trivial rfl (by omega) (fun w => callsIn_wide.2 (cut_a w)) (w.heap.size + 1) ((w.alloc (.cells #[.bool false] 4)).alloc (.cells #[.string ⟨#[47, 97]⟩] 9)) (by simp) (by simp only [World.cell?, hb1]; rfl))
    belowK_t (belowK_b (Nat.le_refl _)) (Below.refl _ _) (fun _ => rfl)
    (fun pre W => (W.cell? ⟨w.heap.size, 0, none⟩ = some (.bool false) ∧ W.frozen? ⟨w.heap.size, 0, none⟩ = false) ∧ Below w.heap.size w W ∧ w.heap.size + 2 ≤ W.heap.size)
    (fun _ _ _ => False)
    (OwnFrom.and (Own.from (fun s A B row hs hg hr => ⟨cell_kept hs.1 hg hr, (frozen_kept hs.1 hg hr).trans hs.2⟩) _) (OwnFrom.and (ownFrom_below (Nat.le_refl _) (by simp; omega)) (fun s A B row hs hg _ => Nat.le_trans hs hg.size)))
    (fun _ _ _ _ _ hs _ _ => hs)
    ⟨⟨by simp only [World.cell?, hb0]; rfl, by simp only [World.frozen?, hb0]; rfl⟩, ((Below.refl _ w).alloc (Nat.le_refl _) _).alloc (by simp) _, by simp⟩
    (fun x => { tmps := #[.string ⟨#[47, 97]⟩, undef, .pointer (some ⟨w.heap.size, 0, none⟩), .string ⟨#[97]⟩, .string ⟨#[47, 97]⟩, .bool false, .bool false, .string ⟨#[47, 97]⟩, .int .u8 47, .bool false, .bool false, .bool false, .string ⟨#[47, 97]⟩, .int .i64 2, .bool false, .bool false, .string ⟨#[47, 97]⟩, .func (.func 581) #[] #[.pointer (some ⟨w.heap.size + 1, 0, none⟩)], .string ⟨#[97]⟩, undef, undef, undef], defers := [] }) ?assign ?body ?done ?stop
  case assign =>
    intro l x W K hK
    gi_wp2
    exact hK
  case body =>
    rintro l pre x W ⟨⟨hc, hf⟩, hB, hS⟩ _
    gi_wp2
    refine ⟨trivial, (CallsIn.inRound l (callsIn_wide.2 (part_a W))).mono ?_⟩
    rintro e W1 ⟨rfl, hb⟩
    gi_wp2
    have hlt : w.heap.size < W.heap.size := lt_of_cell hc
    exact ⟨KeepsOthers.of_grownBy (row := none) ⟨hb.os, hb.tape, hb.output, hb.size, fun k hk _ => hb.block k hk⟩ (fun j o e => by cases e), hb.mono (by simp; omega), ⟨(hb.cell (p := ⟨w.heap.size, 0, none⟩) hlt).trans hc, (hb.frozen (p := ⟨w.heap.size, 0, none⟩) hlt).trans hf⟩, hB.trans (hb.mono (Nat.le_of_lt hlt)), Nat.le_trans hS hb.size⟩
  case done =>
    rintro D xs W hD rfl ⟨⟨hc, hf⟩, hB, hS⟩ hK
    gi_wp2
    refine ⟨by simp, .inl ⟨_, _, rfl, run_takeDeferred ((KeepsOthers.setCell _ _ _).same D _ hK rfl), ?_⟩⟩
    have hK2 := (KeepsOthers.setCell W ⟨w.heap.size, 0, none⟩ (.bool true)).same D _ hK rfl
    have hc1 : (W.setCell ⟨w.heap.size, 0, none⟩ (.bool true)).cell? ⟨w.heap.size, 0, none⟩ = some (.bool true) := World.cell?_setCell_same' _ _ _ (by rw [hc]; rfl)
    have hc2 : ((W.setCell ⟨w.heap.size, 0, none⟩ (.bool true)).putObj D (.deferred none)).cell? ⟨w.heap.size, 0, none⟩ = some (.bool true) := cell_kept hc1 (grownBy_putObj' _ D _) (fun r e => by cases e; exact ⟨_, hK2, rfl⟩)
    refine ⟨.bool true, by simp [results, Tryz.results400, go_sem, hc2], rfl, ?_⟩
    exact (hB.setCell (p := ⟨w.heap.size, 0, none⟩) (Nat.le_refl _) _).grown (grownBy_putObj' _ D _) (Nat.le_trans hB.size (KeepsOthers.setCell W ⟨w.heap.size, 0, none⟩ (.bool true)).size) (fun k e => by cases e; simp at hD; omega)
  case stop =>
    rintro D c pre W _ _ h _
    exact h.elim
set_option maxRecDepth 100000 in
set_option maxHeartbeats 2000000 in
theorem check_root (w : World) : Calls Tryz.prog 400 #[.string ⟨#[47]⟩] w fun e w' => e = .returned (.bool true) ∧ Below w.heap.size w w' := by
  refine (callsIn_wide (n := 9)).1 ?_
  refine callsIn_of_wp_marks Tryz.func400 rfl trivial ?_ rfl
  simp only [Tryz.ntmps400, List.size_toArray, List.length_cons, List.length_nil, Nat.reduceAdd, Nat.reduceSub, Array.replicate_succ, Array.replicate_zero, List.push_toArray, List.append_toArray, List.nil_append, List.cons_append]
  have hmx : Tryz.prog.follows .mixedOrders = true := mixedOk
  gi_wp2
  refine ⟨trivial, (parts_in Fence.wide 8 trivial rfl _ _).mono ?_⟩
  rintro e w1 ⟨rfl, rfl⟩
  gi_wp2
  have hb0 : ((w.alloc (.cells #[.bool false] 4)).alloc (.cells #[.string ⟨#[47]⟩] 9)).heap[w.heap.size]? = some (.cells #[.bool false] 4) := (Below.heap_alloc _ _ _ (by simp)).trans (World.alloc_heap_new w _)
  have hb1 : ((w.alloc (.cells #[.bool false] 4)).alloc (.cells #[.string ⟨#[47]⟩] 9)).heap[w.heap.size + 1]? = some (.cells #[.string ⟨#[47]⟩] 9) := by
    have := World.alloc_heap_new (w.alloc (.cells #[.bool false] 4)) (.cells #[.string ⟨#[47]⟩] 9)
    rwa [World.size_alloc] at this
  refine wpIn_rangeFunc_ownF rfl (by omega) (gf := 581) (lb := #[.pointer (some ⟨w.heap.size + 1, 0, none⟩)]) (by simp [Act.eval]) trivial (enters_of Tryz.func581 (by kernel_rfl) rfl)
    (stops_root Fence.wide 8 trivial rfl (w.heap.size + 1) ((w.alloc (.cells #[.bool false] 4)).alloc (.cells #[.string ⟨#[47]⟩] 9)) (by simp) (by simp only [World.cell?, hb1]; rfl))
    belowK_t (belowK_b (Nat.le_refl _)) (Below.refl _ _) (fun _ => rfl)
    (fun pre W => (W.cell? ⟨w.heap.size, 0, none⟩ = some (.bool false) ∧ W.frozen? ⟨w.heap.size, 0, none⟩ = false) ∧ Below w.heap.size w W ∧ w.heap.size + 2 ≤ W.heap.size)
    (fun _ _ _ => False)
    (OwnFrom.and (Own.from (fun s A B row hs hg hr => ⟨cell_kept hs.1 hg hr, (frozen_kept hs.1 hg hr).trans hs.2⟩) _) (OwnFrom.and (ownFrom_below (Nat.le_refl _) (by simp; omega)) (fun s A B row hs hg _ => Nat.le_trans hs hg.size)))
    (fun _ _ _ _ _ hs _ _ => hs)
    ⟨⟨by simp only [World.cell?, hb0]; rfl, by simp only [World.frozen?, hb0]; rfl⟩, ((Below.refl _ w).alloc (Nat.le_refl _) _).alloc (by simp) _, by simp⟩
    (fun x => { tmps := #[.string ⟨#[47]⟩, undef, .pointer (some ⟨w.heap.size, 0, none⟩), .string ⟨#[97]⟩, .string ⟨#[47]⟩, .bool false, .bool false, .string ⟨#[47]⟩, .int .u8 47, .bool false, .bool false, .bool false, .string ⟨#[47]⟩, .int .i64 1, .bool false, .bool false, .string ⟨#[47]⟩, .func (.func 581) #[] #[.pointer (some ⟨w.heap.size + 1, 0, none⟩)], .string ⟨#[97]⟩, undef, undef, undef], defers := [] }) ?assign ?body ?done ?stop
  case assign =>
    intro l x W K hK
    gi_wp2
    exact hK
  case body =>
    rintro l pre x W ⟨⟨hc, hf⟩, hB, hS⟩ _
    gi_wp2
    refine ⟨trivial, (CallsIn.inRound l (callsIn_wide.2 (part_a W))).mono ?_⟩
    rintro e W1 ⟨rfl, hb⟩
    gi_wp2
    have hlt : w.heap.size < W.heap.size := lt_of_cell hc
    exact ⟨KeepsOthers.of_grownBy (row := none) ⟨hb.os, hb.tape, hb.output, hb.size, fun k hk _ => hb.block k hk⟩ (fun j o e => by cases e), hb.mono (by simp; omega), ⟨(hb.cell (p := ⟨w.heap.size, 0, none⟩) hlt).trans hc, (hb.frozen (p := ⟨w.heap.size, 0, none⟩) hlt).trans hf⟩, hB.trans (hb.mono (Nat.le_of_lt hlt)), Nat.le_trans hS hb.size⟩
  case done =>
    rintro D xs W hD rfl ⟨⟨hc, hf⟩, hB, hS⟩ hK
    gi_wp2
    refine ⟨by simp, .inl ⟨_, _, rfl, run_takeDeferred ((KeepsOthers.setCell _ _ _).same D _ hK rfl), ?_⟩⟩
    have hK2 := (KeepsOthers.setCell W ⟨w.heap.size, 0, none⟩ (.bool true)).same D _ hK rfl
    have hc1 : (W.setCell ⟨w.heap.size, 0, none⟩ (.bool true)).cell? ⟨w.heap.size, 0, none⟩ = some (.bool true) := World.cell?_setCell_same' _ _ _ (by rw [hc]; rfl)
    have hc2 : ((W.setCell ⟨w.heap.size, 0, none⟩ (.bool true)).putObj D (.deferred none)).cell? ⟨w.heap.size, 0, none⟩ = some (.bool true) := cell_kept hc1 (grownBy_putObj' _ D _) (fun r e => by cases e; exact ⟨_, hK2, rfl⟩)
    refine ⟨.bool true, by simp [results, Tryz.results400, go_sem, hc2], rfl, ?_⟩
    exact (hB.setCell (p := ⟨w.heap.size, 0, none⟩) (Nat.le_refl _) _).grown (grownBy_putObj' _ D _) (Nat.le_trans hB.size (KeepsOthers.setCell W ⟨w.heap.size, 0, none⟩ (.bool true)).size) (fun k e => by cases e; simp at hD; omega)
  case stop =>
    rintro D c pre W _ _ h _
    exact h.elim
/-- path.Check told at two places -/
def sC (args : List V) (h : Hp) (K : V → Hp → Bool) : Bool := fst1 args fun v => grd (or (eqV v (.str [47])) (eqV v (.str [47, 97]))) (K (.bool true) h)
theorem sC_ok (args : List V) (h : Hp) (K : V → Hp → Bool) (e : sC args h K = true) (G : Fr) (m : M) (w : World) (args' : List Value) (hh : HRel G m h w) (hg : GRel m) (ra : LRel m args args') : Calls Tryz.prog 400 args'.toArray w (Ret G m h K) := by
  obtain ⟨v, rfl, e1⟩ := fst1_inv (show fst1 args _ = true from e)
  obtain ⟨e2, e5⟩ := grd_inv e1
  have e3 : eqV v (.str [47]) = true ∨ eqV v (.str [47, 97]) = true := by simpa using e2
  rcases e3 with e4 | e4
  · rw [eqV_eq e4] at ra
    cases ra with
    | cons _ v' _ _ rf ra =>
      cases ra
      rw [str_is (l := [47]) rf]
      refine (check_root w).mono fun en w' hr => ?_
      obtain ⟨rfl, hb⟩ := hr
      exact ret_below hh hb (.bool true) e5
  · rw [eqV_eq e4] at ra
    cases ra with
    | cons _ v' _ _ rf ra =>
      cases ra
      rw [str_is (l := [47, 97]) rf]
      refine (check_a w).mono fun en w' hr => ?_
      obtain ⟨rfl, hb⟩ := hr
      exact ret_below hh hb (.bool true) e5
end
end Go.Proofs.Tryz
namespace Go.Proofs.Tryz
open Go Go.Ev Go.RowKit Go.Shelf Go.Lib
noncomputable section
abbrev SumF := List V → Hp → (V → Hp → Bool) → Bool
def pickF (f n : Nat) (s : SumF) (r : Option SumF) : Option SumF := Bool.rec (motive := fun _ => Option SumF) r (some s) (Nat.beq f n)
theorem pickF_inv {f n : Nat} {s t : SumF} {r : Option SumF} (h : pickF f n s r = some t) : (f = n ∧ t = s) ∨ r = some t := by
  unfold pickF at h
  cases hb : Nat.beq f n with
  | true => rw [hb] at h; cases h; exact .inl ⟨Nat.eq_of_beq_eq_true hb, rfl⟩
  | false => rw [hb] at h; exact .inr h
def sums0 (f : Nat) : Option SumF := pickF f 334 sI (pickF f 344 sM (pickF f 400 sC none))
def idle0 (f : Nat) (l : List V) : Bool := or (grd (Nat.beq f 80) (fst1 l fun _ => true)) (or (grd (Nat.beq f 117) (fst2 l fun _ _ => true)) (or (grd (Nat.beq f 488) (fst2 l fun _ _ => true)) (grd (Nat.beq f 521) (fst1 l fun _ => true))))
def T0 : Ev.Told := ⟨sums0, idle0⟩
theorem idle0_ok (f : Nat) (l : List V) (h : idle0 f l = true) : Idle Tryz.prog f l.length := by
  unfold idle0 at h
  have h1 : grd (Nat.beq f 80) (fst1 l fun _ => true) = true ∨ grd (Nat.beq f 117) (fst2 l fun _ _ => true) = true ∨ grd (Nat.beq f 488) (fst2 l fun _ _ => true) = true ∨ grd (Nat.beq f 521) (fst1 l fun _ => true) = true := by simpa using h
  rcases h1 with e | e | e | e
  · obtain ⟨e1, e2⟩ := grd_inv e
    obtain ⟨v, rfl, _⟩ := fst1_inv e2
    rw [Nat.eq_of_beq_eq_true e1]; exact idle80
  · obtain ⟨e1, e2⟩ := grd_inv e
    obtain ⟨v, u, rfl, _⟩ := fst2_inv e2
    rw [Nat.eq_of_beq_eq_true e1]; exact idle117
  · obtain ⟨e1, e2⟩ := grd_inv e
    obtain ⟨v, u, rfl, _⟩ := fst2_inv e2
    rw [Nat.eq_of_beq_eq_true e1]; exact idle488
  · obtain ⟨e1, e2⟩ := grd_inv e
    obtain ⟨v, rfl, _⟩ := fst1_inv e2
    rw [Nat.eq_of_beq_eq_true e1]; exact idle521
theorem sums0_ok (f : Nat) (s : SumF) (h : sums0 f = some s) : HasBody Tryz.prog f ∧ ∀ args h K, s args h K = true → ∀ G m w (args' : List Value), HRel G m h w → GRel m → LRel m args args' → Calls Tryz.prog f args'.toArray w (Ret G m h K) := by
  rcases pickF_inv h with ⟨rfl, rfl⟩ | h
  · exact ⟨⟨_, _, Tryz.func334, rfl⟩, sI_ok⟩
  rcases pickF_inv h with ⟨rfl, rfl⟩ | h
  · exact ⟨⟨_, _, Tryz.func344, rfl⟩, sM_ok⟩
  rcases pickF_inv h with ⟨rfl, rfl⟩ | h
  · exact ⟨⟨_, _, Tryz.func400, rfl⟩, sC_ok⟩
  · cases h
theorem told0 : ToldOk Tryz.prog T0 := ⟨sums0_ok, idle0_ok⟩

-- the run of awake: where it begins, what it asks
def hasT : List V := [.int .i64 (.ofNat 0), .int .i64 (.ofNat 23), .int .i64 (.ofNat 17), .int .i64 (.ofNat 11), .int .i64 (.ofNat 32), .int .i64 (.ofNat 260), .int .i64 (.ofNat 0), .int .i64 (.ofNat 128), .int .i64 (.ofNat 256), .int .i64 (.ofNat 64)]
def h0l : List (Nat × Blk) := [(0, .cells true hasT), (2, .cells true firstL), (3, .cells true accL)]
def isTrue (v : V) (_ : Hp) : Bool := onBool v fun b => b
def bodyOf (f : Nat) : Code := Option.rec (motive := fun _ => Code) .skip (fun fn => Option.rec (motive := fun _ => Code) .skip (fun c => c) (Func.body fn)) (Tryz.prog.funcs[f]?)
def cfA : CallF := callK Tryz.prog T0 100
theorem cfA_ok : CallOk Tryz.prog cfA := callK_ok good told0 100
end
end Go.Proofs.Tryz
