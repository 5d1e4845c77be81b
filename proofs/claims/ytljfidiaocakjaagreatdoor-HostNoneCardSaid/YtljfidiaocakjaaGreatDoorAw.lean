/-
  awake answers true; HostNone answers true, and what was stays.
-/
import Derived.Test.YtljfidiaocakjaaGreatDoorEvE
import Derived.Test.YtljfidiaocakjaaGreatDoorLi
import Derived.WalkKit
import Derived.KernelRfl
import Derived.Test.YtljfidiaocakjaaGreatDoorPcA
import Derived.Test.YtljfidiaocakjaaGreatDoorPcB
import Derived.Test.YtljfidiaocakjaaGreatDoorPcC
import Derived.Test.YtljfidiaocakjaaGreatDoorPcD
set_option linter.unusedVariables false
set_option linter.unusedSimpArgs false
namespace Go.Proofs.Tryz
open Go Go.Ev Go.RowKit Go.Lib
noncomputable section
/-- a slice value, as one says it of a slice that nobody looks into -/
def outV (n c : Nat) : V := .sl (BId.of 63) 0 n (.ex c)
/-- a slice value that may be -/
def SlV (ys : Value) : Prop := ys = .slice none 0 0 ∨ ∃ a n c, n ≤ c ∧ ys = .slice (some a) n c
def vOf : Value → V | .slice (some _) n c => outV n c | _ => .nils
theorem vOf_rel {m : M} (hm : m (BId.of 63) = .dead) {ys : Value} (h : SlV ys) : VRel m (vOf ys) ys ∧ ys.oneCell' = true := by
  rcases h with rfl | ⟨a, n, c, hle, rfl⟩
  · exact ⟨.nils, rfl⟩
  · refine ⟨.sl _ _ _ _ _ _ ?_ hle rfl, rfl⟩
    unfold PRel; rw [hm]; trivial
theorem vOf_cases {ys : Value} (h : SlV ys) : vOf ys = .nils ∨ ∃ n c, vOf ys = outV n c := by
  rcases h with rfl | ⟨a, n, c, _, rfl⟩
  · exact .inl rfl
  · exact .inr ⟨n, c, rfl⟩
theorem mE63 : mE (BId.of 63) = .dead := by unfold mE; rw [BId.val_of 63 (by omega), if_pos (by omega)]
set_option maxHeartbeats 2000000 in
set_option maxRecDepth 100000 in
theorem new33 (id servers x : Int) (ys : Value) (w : World) : Calls Tryz.prog 33 #[.int .i64 id, .pointer none, .agg #[.int .i64 x, ys], .int .i64 servers] w fun e w' =>
    (e = .returned (.tuple #[.pointer none, .int .i64 2]) ∨ e = .returned (.tuple #[.pointer none, .int .i64 1])) ∧ Below w.heap.size w w' := by
  have hmx : Tryz.prog.follows .mixedOrders = true := mixedOk
  go_enter Tryz.func33, Tryz.ntmps33
  go_wp2
  all_goals refine bodyPost_ret (results_tmp2 rfl _ _ _) rfl ?_
  all_goals refine ⟨by first | exact .inl rfl | exact .inr rfl, ?_⟩
  all_goals first | exact (Below.refl _ w).alloc (Nat.le_refl _) _ | exact ((Below.refl _ w).alloc (Nat.le_refl _) _).alloc (by simp) _
/-- peer.New told where there is no disk -/
def isI64 (k : IntKind) : Bool := match k with | .i64 => true | _ => false
theorem isI64_eq {k : IntKind} (h : isI64 k = true) : k = .i64 := by cases k <;> first | rfl | cases h
def onI64 (v : V) (f : Int → Bool) : Bool := onInt v fun k n => grd (isI64 k) (f n)
theorem onI64_inv {v : V} {f : Int → Bool} (h : onI64 v f = true) : ∃ n, v = .int .i64 n ∧ f n = true := by
  obtain ⟨k, n, rfl, h1⟩ := onInt_inv h
  obtain ⟨h2, h3⟩ := grd_inv h1
  rw [isI64_eq h2]
  exact ⟨n, rfl, h3⟩
def fst4 (l : List V) (f : V → V → V → V → Bool) : Bool := List.rec (motive := fun _ => Bool) false (fun a l _ => List.rec (motive := fun _ => Bool) false (fun b l _ => fst2 l (f a b)) l) l
theorem fst4_inv {l : List V} {f : V → V → V → V → Bool} (h : fst4 l f = true) : ∃ a b c d, l = [a, b, c, d] ∧ f a b c d = true := by
  cases l with
  | nil => cases h
  | cons a l =>
    cases l with
    | nil => cases h
    | cons b l =>
      obtain ⟨c, d, rfl, h1⟩ := fst2_inv (show fst2 l (f a b) = true from h)
      exact ⟨a, b, c, d, rfl, h1⟩
def sN (args : List V) (h : Hp) (K : V → Hp → Bool) : Bool := fst4 args fun a b c d => onI64 a fun _ => grd (eqV b .nilp) (onAgg c fun l => fst2 l fun x y => onI64 x fun _ => onI64 d fun _ => grd (K (.tup [.nilp, .int .i64 (.ofNat 2)]) h) (K (.tup [.nilp, .int .i64 (.ofNat 1)]) h))
theorem sN_ok (args : List V) (h : Hp) (K : V → Hp → Bool) (e : sN args h K = true) (G : Fr) (m : M) (w : World) (args' : List Value) (hh : HRel G m h w) (hg : GRel m) (ra : LRel m args args') : Calls Tryz.prog 33 args'.toArray w (Ret G m h K) := by
  obtain ⟨a, b, c, d, rfl, e1⟩ := fst4_inv (show fst4 args _ = true from e)
  obtain ⟨id, rfl, e2⟩ := onI64_inv e1
  obtain ⟨e3, e4⟩ := grd_inv e2
  rw [eqV_eq e3] at ra
  obtain ⟨l, rfl, e5⟩ := onAgg_inv e4
  obtain ⟨x, y, rfl, e6⟩ := fst2_inv e5
  obtain ⟨n, rfl, e7⟩ := onI64_inv e6
  obtain ⟨servers, rfl, e8⟩ := onI64_inv e7
  obtain ⟨k2, k1⟩ := grd_inv e8
  cases ra with
  | cons _ _ _ _ r1 ra =>
    cases ra with
    | cons _ _ _ _ r2 ra =>
      cases ra with
      | cons _ _ _ _ r3 ra =>
        cases ra with
        | cons _ _ _ _ r4 ra =>
          cases ra
          cases r1; cases r2; cases r4
          cases r3 with
          | agg _ _ r hf =>
            cases r with
            | cons _ _ _ _ q1 r =>
              cases r with
              | cons _ y' _ _ q2 r =>
                cases r
                cases q1
                refine (new33 id servers n y' w).mono fun en w' hr => ?_
                obtain ⟨rfl | rfl, hb⟩ := hr
                · exact ret_below hh hb (.tup [.nilp, .int .i64 (.ofNat 2)] [.pointer none, .int .i64 2] (.cons _ _ _ _ .nilp (.cons _ _ _ _ (.int .i64 2) .nil))) k2
                · exact ret_below hh hb (.tup [.nilp, .int .i64 (.ofNat 1)] [.pointer none, .int .i64 1] (.cons _ _ _ _ .nilp (.cons _ _ _ _ (.int .i64 1) .nil))) k1
end
end Go.Proofs.Tryz
namespace Go.Proofs.Tryz
open Go Go.Ev Go.RowKit Go.Lib
noncomputable section
theorem body4 : Tryz.f4.body = some (bodyOf 4) := by kernel_rfl
theorem res4 : Tryz.f4.results.toList = [.tmp 0] := by kernel_rfl
theorem tl4eq : tailC 2 (tailC 2 (bodyOf 4)) = tailC 4 (bodyOf 4) := by kernel_rfl
theorem tl5eq : tailC 1 (tailC 4 (bodyOf 4)) = tailC 5 (bodyOf 4) := by kernel_rfl
theorem tl6eq : tailC 1 (tailC 5 (bodyOf 4)) = tailC 6 (bodyOf 4) := by kernel_rfl
theorem awake_ok {w : World} (k : Known w) : Calls Tryz.prog 4 #[] w (Ret (allG w) (m0 w) h0 isTrue) := by
  obtain ⟨hh, hg⟩ := start_ok k
  refine calls_of_wp_defers Tryz.func4 body4 ?_
  rw [Tryz.ntmps4]
  have hsz : (#[] ++ Array.replicate (93 - (#[] : Array Value).size) undef).size = 93 := by simp
  have s0 : SRel (allG w) (m0 w) 93 (tmOf []) [] h0 { tmps := #[] ++ Array.replicate (93 - (#[] : Array Value).size) undef, defers := [] } w := ⟨⟨hsz, by omega, fun t v _ hv => by
    have hv : T3.at (T3.all (none : Option V)) t = some v := hv
    simp at hv⟩, .nil, hh, hg⟩
  have q1 := p1
  rw [startK_eq] at q1
  refine head_ok good cfA_ok 2 (bodyOf 4) s0 q1 ?_
  intro tm1 ds1 h1 a1 w1 m1 x1 s1 c1
  obtain ⟨s1, y1⟩ := chkSt_ok c1 s1
  have q2 := p2
  rw [startK_eq] at q2
  refine head_ok good cfA_ok 2 (tailC 2 (bodyOf 4)) s1 q2 ?_
  intro tm2 ds2 h2 a2 w2 m2 x2 s2 c2
  obtain ⟨s2, y2⟩ := chkSt_ok c2 s2
  have q3 := p3
  rw [startK_eq] at q3
  rw [tl4eq]
  refine head_ok good cfA_ok 1 (tailC 4 (bodyOf 4)) s2 q3 ?_
  intro tm3 ds3 h3 a3 w3 m3 x3 s3 c3
  obtain ⟨s3, y3⟩ := chkSt_ok c3 s3
  have q4 := p4
  rw [startK_eq] at q4
  rw [tl5eq]
  refine head_ok good cfA_ok 1 (tailC 5 (bodyOf 4)) s3 q4 ?_
  intro tm4 ds4 h4 a4 w4 m4 x4 s4 c4
  obtain ⟨s4, y4⟩ := chkSt_ok c4 s4
  have q5 := p5
  rw [startK_eq] at q5
  rw [tl6eq]
  refine code_ok good cfA_ok (allG w) 93 (tailC 6 (bodyOf 4)) none _ rfl s4 q5 ?_
  intro ex tm5 ds5 h5 a5 w5 m5 x5 s5 c5
  exact end_ok good told0 res4 (((((((((x1.trans y1).trans x2).trans y2).trans x3).trans y3).trans x4).trans y4)).trans x5) s5 c5
theorem awake_below {w : World} (k : Known w) : Calls Tryz.prog 4 #[] w fun e w' => e = .returned (.bool true) ∧ Below w.heap.size w w' := by
  refine (awake_ok k).mono fun en w' hr => ?_
  cases en with
  | returned v' =>
    obtain ⟨v, h', m', x, rv, hh, hK⟩ := hr
    obtain ⟨b, rfl, hb⟩ := onBool_inv (show onBool v (fun b => b) = true from hK)
    subst hb
    cases rv
    exact ⟨rfl, hh.all_below⟩
  | _ => exact hr.elim
def sA (args : List V) (h : Hp) (K : V → Hp → Bool) : Bool := List.rec (motive := fun _ => Bool) (knownK h (K (.bool true) h)) (fun _ _ _ => false) args
theorem sA_ok (args : List V) (h : Hp) (K : V → Hp → Bool) (e : sA args h K = true) (G : Fr) (m : M) (w : World) (args' : List Value) (hh : HRel G m h w) (hg : GRel m) (ra : LRel m args args') : Calls Tryz.prog 4 args'.toArray w (Ret G m h K) := by
  cases args with
  | cons _ _ => cases e
  | nil =>
    cases ra
    obtain ⟨kn, hK⟩ := knownK_ok hh hg (show knownK h _ = true from e)
    refine (awake_below kn).mono fun en w' hr => ?_
    obtain ⟨rfl, hb⟩ := hr
    exact ret_below hh hb (.bool true) hK
end
end Go.Proofs.Tryz
namespace Go.Proofs.Tryz
open Go Go.Ev Go.RowKit Go.Lib
noncomputable section
def sums3 (f : Nat) : Option SumF := pickF f 4 sA (pickF f 33 sN none)
def T3 : Ev.Told := ⟨sums3, fun _ _ => false⟩
theorem sums3_ok (f : Nat) (s : SumF) (h : sums3 f = some s) : HasBody Tryz.prog f ∧ ∀ args h K, s args h K = true → ∀ G m w (args' : List Value), HRel G m h w → GRel m → LRel m args args' → Calls Tryz.prog f args'.toArray w (Ret G m h K) := by
  rcases pickF_inv h with ⟨rfl, rfl⟩ | h
  · exact ⟨⟨_, _, Tryz.func4, rfl⟩, sA_ok⟩
  rcases pickF_inv h with ⟨rfl, rfl⟩ | h
  · exact ⟨⟨_, _, Tryz.func33, rfl⟩, sN_ok⟩
  · cases h
theorem told3 : ToldOk Tryz.prog T3 := ⟨sums3_ok, fun f l h => by cases h⟩
theorem hn00 (id servers src x : Int) : callK Tryz.prog T3 20 3 [.int .i64 id, .int .i64 servers, .int .i64 src, .nils, .agg [.int .i64 x, .nils]] h0 isTrue = true := by kernel_rfl
theorem hn01 (id servers src x : Int) (n c : Nat) : callK Tryz.prog T3 20 3 [.int .i64 id, .int .i64 servers, .int .i64 src, .nils, .agg [.int .i64 x, outV n c]] h0 isTrue = true := by kernel_rfl
theorem hn10 (id servers src x : Int) (n c : Nat) : callK Tryz.prog T3 20 3 [.int .i64 id, .int .i64 servers, .int .i64 src, outV n c, .agg [.int .i64 x, .nils]] h0 isTrue = true := by kernel_rfl
theorem hn11 (id servers src x : Int) (n c n' c' : Nat) : callK Tryz.prog T3 20 3 [.int .i64 id, .int .i64 servers, .int .i64 src, outV n c, .agg [.int .i64 x, outV n' c']] h0 isTrue = true := by kernel_rfl
theorem m63 (w : World) : m0 w (BId.of 63) = .dead := by unfold m0; rw [BId.val_of 63 (by omega), if_neg (by omega), if_pos (by omega)]
theorem hostNone_ok {w : World} (k : Known w) (id servers src x : Int) (b ys : Value) (hb : SlV b) (hy : SlV ys) :
    Calls Tryz.prog 3 #[.int .i64 id, .int .i64 servers, .int .i64 src, b, .agg #[.int .i64 x, ys]] w fun e w' => e = .returned (.bool true) ∧ Below w.heap.size w w' := by
  obtain ⟨hh, hg⟩ := start_ok k
  obtain ⟨rb, fb⟩ := vOf_rel (m63 w) hb
  obtain ⟨ry, fy⟩ := vOf_rel (m63 w) hy
  have e : callK Tryz.prog T3 20 3 [.int .i64 id, .int .i64 servers, .int .i64 src, vOf b, .agg [.int .i64 x, vOf ys]] h0 isTrue = true := by
    rcases vOf_cases hb with h1 | ⟨n, c, h1⟩ <;> rcases vOf_cases hy with h2 | ⟨n', c', h2⟩ <;> rw [h1, h2]
    · exact hn00 id servers src x
    · exact hn01 id servers src x n' c'
    · exact hn10 id servers src x n c
    · exact hn11 id servers src x n c n' c'
  refine ((callK_ok good told3 20 3 _ h0 isTrue e).2 (allG w) (m0 w) w _ hh hg (.cons _ _ _ _ (.int .i64 id) (.cons _ _ _ _ (.int .i64 servers) (.cons _ _ _ _ (.int .i64 src) (.cons _ _ _ _ rb (.cons _ _ _ _ (.agg _ [.int .i64 x, ys] (.cons _ _ _ _ (.int .i64 x) (.cons _ _ _ _ ry .nil)) (fun v hv => ?_)) .nil)))))).mono fun en w' hr => ?_
  · simp only [List.mem_cons, List.not_mem_nil, or_false] at hv
    rcases hv with rfl | rfl
    · rfl
    · exact fy
  cases en with
  | returned v' =>
    obtain ⟨v, h', m', x, rv, hh, hK⟩ := hr
    obtain ⟨b, rfl, hb⟩ := onBool_inv (show onBool v (fun b => b) = true from hK)
    subst hb
    cases rv
    exact ⟨rfl, hh.all_below⟩
  | _ => exact hr.elim
end
end Go.Proofs.Tryz
