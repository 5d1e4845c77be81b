/-
  Where the run of awake begins, and what it holds at four places.
-/
import Derived.Test.YtljfidiaocakjaaGreatDoorEvE
import Derived.Test.YtljfidiaocakjaaGreatDoorTold
import Derived.KernelRfl
set_option linter.unusedVariables false
set_option linter.unusedSimpArgs false
namespace Go.Proofs.Tryz
open Go Go.Ev Go.RowKit Go.Lib
noncomputable section

/-- one variable, as the world holds it -/
def KnownAt (w : World) (g : Nat) (l : List V) : Prop := ∃ c t f, w.heap[g]? = some (.cells c t f) ∧ ∀ (i : Nat) k n, l[i]? = some (V.int k n) → c[i]? = some (Value.int k n)
def Known (w : World) : Prop := KnownAt w 0 hasT ∧ KnownAt w 2 firstL ∧ KnownAt w 3 accL
def allInt (l : List V) : Bool := l.all fun v => match v with | .int _ _ => true | _ => false
theorem allInt_at {l : List V} (h : allInt l = true) {i : Nat} {v : V} (hv : l[i]? = some v) : ∃ k n, v = .int k n := by
  have h1 := List.all_eq_true.1 h v (List.mem_of_getElem? hv)
  cases v with
  | int k n => exact ⟨k, n, rfl⟩
  | _ => cases h1
theorem i0 : allInt hasT = true := by kernel_rfl
theorem i2 : allInt firstL = true := by kernel_rfl
theorem i3 : allInt accL = true := by kernel_rfl

theorem blOf_at : ∀ {l : List (Nat × Blk)} {b : BId} {x : Blk}, T5.at (blOf l) b = some x → ∃ i, (i, x) ∈ l ∧ BId.of i = b
  | [], b, x, e => by
    have e : T5.at (T5.all (none : Option Blk)) b = some x := e
    simp [T5.at, T5.all] at e
  | (i, y) :: l, b, x, e => by
    have e : T5.at (T5.set (blOf l) (BId.of i) (some y)) b = some x := e
    by_cases hib : BId.of i = b
    · subst hib
      rw [T5.at_set_same] at e
      cases e
      exact ⟨i, .head _, rfl⟩
    · rw [T5.at_set_ne _ _ _ _ hib] at e
      obtain ⟨j, hj, hb⟩ := blOf_at e
      exact ⟨j, .tail _ hj, hb⟩

def szOf (w : World) (g : Nat) : Nat := match w.heap[g]? with | some (.cells c _ _) => c.size | _ => 0
def m0 (w : World) : M := fun b => if b.val = 0 ∨ b.val = 2 ∨ b.val = 3 then .live b.val 0 (szOf w b.val) else if b.val < 64 then .dead else .un
def h0 : Hp := hpOf 64 h0l
theorem start_ok {w : World} (k : Known w) : HRel (allG w) (m0 w) h0 w ∧ GRel (m0 w) := by
  have inv : ∀ (b : BId) B base sz, m0 w b = .live B base sz → (b.val = 0 ∨ b.val = 2 ∨ b.val = 3) ∧ B = b.val ∧ base = 0 ∧ sz = szOf w b.val := by
    intro b B base sz h
    unfold m0 at h
    by_cases hb : b.val = 0 ∨ b.val = 2 ∨ b.val = 3
    · rw [if_pos hb] at h; cases h; exact ⟨hb, rfl, rfl, rfl⟩
    · rw [if_neg hb] at h
      split at h <;> cases h
  have kn : ∀ g l, (g, l) ∈ [(0, hasT), (2, firstL), (3, accL)] → KnownAt w g l ∧ allInt l = true ∧ (g = 0 ∨ g = 2 ∨ g = 3) := by
    intro g l h
    simp only [List.mem_cons, List.not_mem_nil, or_false, Prod.mk.injEq] at h
    rcases h with ⟨rfl, rfl⟩ | ⟨rfl, rfl⟩ | ⟨rfl, rfl⟩
    · exact ⟨k.1, i0, .inl rfl⟩
    · exact ⟨k.2.1, i2, .inr (.inl rfl)⟩
    · exact ⟨k.2.2, i3, .inr (.inr rfl)⟩
  have bl : ∀ (b : BId) x, h0.at b = some x → ∃ g l, (g, l) ∈ [(0, hasT), (2, firstL), (3, accL)] ∧ x = .cells true l ∧ b = BId.of g := by
    intro b x hx
    obtain ⟨i, hi, hb⟩ := blOf_at (show T5.at (blOf h0l) b = some x from hx)
    simp only [h0l, List.mem_cons, List.not_mem_nil, or_false, Prod.mk.injEq] at hi
    rcases hi with ⟨rfl, rfl⟩ | ⟨rfl, rfl⟩ | ⟨rfl, rfl⟩
    · exact ⟨0, hasT, by simp, rfl, hb.symm⟩
    · exact ⟨2, firstL, by simp, rfl, hb.symm⟩
    · exact ⟨3, accL, by simp, rfl, hb.symm⟩
  refine ⟨⟨fun b x hx => ?_, fun b b' B base sz base' sz' hb hb' => ?_, fun b hb => ?_, fun b B base sz hb => ?_, fun B o h => h, fun b B base sz x o hb hx ho => ?_, rfl, rfl, rfl, Nat.le_refl _⟩, fun g hg => ?_⟩
  · obtain ⟨g, l, hm, rfl, rfl⟩ := bl b x hx
    obtain ⟨⟨c, t, f, hw, hc⟩, hi, hg⟩ := kn g l hm
    have hv : (BId.of g).val = g := BId.val_of g (by omega)
    refine ⟨g, 0, c.size, .cells c t f, ?_, hw, c, t, f, rfl, rfl, fun h => absurd h (by decide), ?_⟩
    · unfold m0; rw [hv, if_pos hg]; unfold szOf; rw [hw]
    · intro i v hv
      obtain ⟨kk, n, rfl⟩ := allInt_at hi hv
      exact ⟨.int kk n, by simpa using hc i kk n hv, .int kk n, rfl⟩
  · obtain ⟨_, e1, _, _⟩ := inv b B base sz hb
    obtain ⟨_, e2, _, _⟩ := inv b' B base' sz' hb'
    exact BId.val_inj (by rw [← e1, e2])
  · have hb : (BId.of 64).val ≤ b.val := hb
    rw [BId.val_of 64 (by omega)] at hb
    unfold m0; rw [if_neg (by omega), if_neg (by omega)]
  · obtain ⟨hb3, rfl, _, _⟩ := inv b B base sz hb
    have lt : ∀ g l, KnownAt w g l → g < w.heap.size := fun g l ⟨c, t, f, hw, _⟩ => (Array.getElem?_eq_some_iff.1 hw).1
    rcases hb3 with h | h | h <;> rw [h]
    · exact lt _ _ k.1
    · exact lt _ _ k.2.1
    · exact lt _ _ k.2.2
  · obtain ⟨g, l, _, rfl, _⟩ := bl b x hx
    rfl
  · have hv : (BId.of g).val = g := BId.val_of g (by omega)
    unfold PRel m0
    rw [hv]
    by_cases h3 : g = 0 ∨ g = 2 ∨ g = 3
    · rw [if_pos h3]
    · rw [if_neg h3, if_pos hg]; trivial
/-- of a relation -/
theorem known_at {G : Fr} {m : M} {h : Hp} {w : World} (hh : HRel G m h w) (hg : GRel m) {g : Nat} (hlt : g < 64) {ro : Bool} {l : List V} (hb : h.at (BId.of g) = some (.cells ro l)) : KnownAt w g l := by
  obtain ⟨B, base, sz, c, t, f, hm, hw, _, _, hc⟩ := hh.cells hb
  have hp := hg g hlt
  unfold PRel at hp
  rw [hm] at hp
  have e1 : g = B := by simpa using congrArg Addr.block hp
  have e2 : (0 : Nat) = base := by simpa using congrArg Addr.off hp
  subst e1; subst e2
  refine ⟨c, t, f, hw, fun i k n hi => ?_⟩
  obtain ⟨v', h1, rv, _⟩ := hc i _ hi
  cases rv
  simpa using h1
def knownK (h : Hp) (K : Bool) : Bool := tabsK h (getK h (BId.of 0) fun x => cellsK x fun ro cs => grd (eqVs cs hasT) K)
theorem knownK_ok {G : Fr} {m : M} {h : Hp} {w : World} (hh : HRel G m h w) (hg : GRel m) {K : Bool} (e : knownK h K = true) : Known w ∧ K = true := by
  obtain ⟨x, hx, e1⟩ := getK_inv (show getK h (BId.of 2) _ = true from e)
  obtain ⟨ro, cs, rfl, e2⟩ := cellsK_inv e1
  obtain ⟨e3, e4⟩ := grd_inv e2
  have e3 := eqVs_eq e3
  subst e3
  obtain ⟨y, hy, e5⟩ := getK_inv (show getK h (BId.of 3) _ = true from e4)
  obtain ⟨ro', cs', rfl, e6⟩ := cellsK_inv e5
  obtain ⟨e7, e8⟩ := grd_inv e6
  have e7 := eqVs_eq e7
  subst e7
  obtain ⟨z, hz, e9⟩ := getK_inv (show getK h (BId.of 0) _ = true from e8)
  obtain ⟨ro2, cs2, rfl, e10⟩ := cellsK_inv e9
  obtain ⟨e11, e12⟩ := grd_inv e10
  have e11 := eqVs_eq e11
  subst e11
  exact ⟨⟨known_at hh hg (by omega) hz, known_at hh hg (by omega) hx, known_at hh hg (by omega) hy⟩, e12⟩

/-- how a body ends -/
theorem end_ok {P : Program} (gd : Ev.Good P) {T : Ev.Told} (hT : ToldOk P T) {fn : Func} {G : Fr} {m m' : M} {h h' : Hp} {nt : Nat} {K : V → Hp → Bool} {rs : List ResultVar} (hrs : fn.results.toList = rs) {ex : AExit} {tm : Tm} {ds : List Dfr} {a : Act} {w : World}
    (x : Ext m h m' h') (s : SRel G m' nt tm ds h' a w) (k : endK P T rs K ex tm ds h' = true) : bodyPostD P fn (Ret G m h K) ex.is a w := by
  have fin : endG P T rs K tm ds h' = true → Leaves P fn a.tmps (Ret G m h K) a.defers .returning w := by
    intro k
    obtain ⟨h6, h7⟩ := grd_inv k
    refine leaves_idle gd hT (fun w2 hw2 => ?_) s.d s.h h6
    obtain ⟨vs, vs', hr, rvs, hK⟩ := resK_inv s.g s.t hw2 h7
    obtain ⟨v, v', hres, rv, hK2⟩ := results_run (by rw [hrs]; exact hr) rvs hK
    exact ⟨v', hres, v, h', m', x, rv, hw2, hK2⟩
  cases ex with
  | nrm => exact fin k
  | ret => exact fin k
  | exit i => cases k
  | goto g => cases k
end
end Go.Proofs.Tryz
namespace Go.Proofs.Tryz
open Go Go.Ev Go.RowKit
noncomputable section
def nx1 : Nat := 1038
def tl1 : List (Nat × V) := [(0, .bool false),
  (1, .ptr ⟨.d7, .d11, .d0⟩ 0)]
def hl1 : List (Nat × Blk) := [(2, .cells true firstL), (3, .cells true accL), (0, .cells true [.int .i64 (.ofNat 0), .int .i64 (.ofNat 23), .int .i64 (.ofNat 17), .int .i64 (.ofNat 11), .int .i64 (.ofNat 32), .int .i64 (.ofNat 260), .int .i64 (.ofNat 0), .int .i64 (.ofNat 128), .int .i64 (.ofNat 256), .int .i64 (.ofNat 64)]),
  (64, .map 6 [(.str [110, 111, 119], .ptr ⟨.d4, .d8, .d1⟩ 0)] [5]),
  (65, .cells false [.int .i64 (.ofNat 4194304), .int .i64 (.ofNat 13), .mp ⟨.d0, .d4, .d0⟩]),
  (80, .cells false [.int .i64 (.ofNat 1), .int .u8 (.ofNat 1), .int .i64 (.ofNat 1), .int .i64 (.ofNat 0)]),
  (81, .cells false [.ptr ⟨.d1, .d4, .d0⟩ 0, .int .i64 (.ofNat 0), .int .i64 (.ofNat 1), .int .i64 (.ofNat 1), .int .i64 (.ofNat 1), .int .i64 (.ofNat 0), .ptr ⟨.d7, .d5, .d0⟩ 0, .nils, .int .i64 (.ofNat 0), .int .i64 (.ofNat 0), .int .i64 (.ofNat 0), .sl ⟨.d0, .d5, .d0⟩ 0 1 (.op 4)]),
  (87, .cells false [.ptr ⟨.d1, .d4, .d0⟩ 0, .str [103, 97], .nils]),
  (110, .map 1 [(.str [47], .ptr ⟨.d15, .d6, .d0⟩ 0)] [0]),
  (111, .cells false [.nils, .int .i64 (.ofNat 0), .int .i64 (.ofNat 0), .int .i64 (.ofNat 0), .int .i64 (.ofNat 0), .int .i64 (.ofNat 0), .int .i64 (.ofNat 0), .int .i64 (.ofNat 0), .int .i64 (.ofNat 0), .int .i64 (.ofNat 0), .int .i64 (.ofNat 0)]),
  (112, .map 0 [] []),
  (113, .cells false [.mp ⟨.d14, .d6, .d0⟩, .mp ⟨.d0, .d7, .d0⟩]),
  (114, .map 0 [] []),
  (115, .map 0 [] []),
  (116, .map 0 [] []),
  (117, .cells false [.int .i64 (.ofNat 1), .int .i64 (.ofNat 1), .ptr ⟨.d1, .d5, .d0⟩ 0, .mp ⟨.d2, .d7, .d0⟩, .int .i64 (.ofNat 1048576), .int .i64 (.ofNat 12), .int .i64 (.ofNat 2), .int .u8 (.ofNat 3), .int .i64 (.ofNat 1), .int .i64 (.ofNat 0), .int .i64 (.ofNat 0), .ptr ⟨.d6, .d8, .d0⟩ 0, .ptr ⟨.d14, .d15, .d0⟩ 0, .nilp, .mp ⟨.d2, .d15, .d0⟩, .bool true, .bool true, .bool true, .ptr ⟨.d11, .d11, .d1⟩ 0, .mp ⟨.d3, .d15, .d0⟩, .ptr ⟨.d1, .d7, .d0⟩ 0, .int .i64 (.ofNat 0), .int .i64 (.ofNat 0), .sl ⟨.d9, .d7, .d0⟩ 0 1 (.op 4), .nilp, .int .i64 (.ofNat 0), .nils, .nils, .mp ⟨.d3, .d7, .d0⟩, .int .i64 (.ofNat 1), .int .i64 (.ofNat 1), .bool false, .nils, .mp ⟨.d4, .d7, .d0⟩, .int .i64 (.ofNat 0), .bool false]),
  (121, .cells false [.int .i64 (.ofNat 1), .int .u8 (.ofNat 1), .int .i64 (.ofNat 1), .int .i64 (.ofNat 0)]),
  (134, .cells false [.int .i64 (.ofNat 1), .int .i64 (.ofNat 1), .int .i64 (.ofNat 0), .int .i64 (.ofNat 0), .sl ⟨.d15, .d9, .d0⟩ 0 1 (.op 2), .int .i64 (.ofNat 2), .int .i64 (.ofNat 1), .int .i64 (.ofNat 0), .int .i64 (.ofNat 0), .mp ⟨.d3, .d10, .d0⟩, .int .i64 (.ofNat 2)]),
  (159, .cells false [.int .i64 (.ofNat 0), .sl ⟨.d1, .d10, .d0⟩ 0 1 (.op 4)]),
  (161, .cells false [.int .i64 (.ofNat 1), .int .u8 (.ofNat 1), .int .i64 (.ofNat 1), .int .i64 (.ofNat 0)]),
  (163, .map 0 [] []),
  (171, .map 0 [] []),
  (182, .cells false [.int .i64 (.ofNat 1), .int .i64 (.ofNat 1), .ptr ⟨.d5, .d7, .d0⟩ 0, .int .i64 (.ofNat 12), .mp ⟨.d11, .d10, .d0⟩, .int .i64 (.ofNat 1048576), .int .i64 (.ofNat 0), .int .i64 (.ofNat 1), .ptr ⟨.d0, .d14, .d1⟩ 0, .int .i64 (.ofNat 0), .ptr ⟨.d6, .d14, .d1⟩ 0, .ptr ⟨.d8, .d14, .d1⟩ 0, .nils, .nils]),
  (183, .cells false [.ptr ⟨.d6, .d11, .d0⟩ 0, .sl ⟨.d11, .d11, .d0⟩ 0 1 (.op 1), .nils, .bool false]),
  (184, .cells false [.int .i64 (.ofNat 5), .int .i64 (.ofNat 0), .nils, .int .i64 (.ofNat 0), .int .i64 (.ofNat 0)]),
  (185, .cells false [.int .i64 (.ofNat 1), .ptr ⟨.d8, .d11, .d0⟩ 0, .nils, .bool false]),
  (187, .cells false [.ptr ⟨.d9, .d11, .d0⟩ 0]),
  (242, .map 0 [] []),
  (243, .map 0 [] []),
  (254, .cells false [.int .i64 (.ofNat 1), .int .i64 (.ofNat 0), .int .i64 (.ofNat 0), .sl ⟨.d7, .d0, .d1⟩ 0 1 (.op 2), .int .u8 (.ofNat 4), .int .i64 (.ofNat 1), .bool false, .int .i64 (.ofNat 0), .bool false, .bool false, .int .i64 (.negSucc 0), .bool true, .int .i64 (.ofNat 0), .bool true, .bool true, .int .i64 (.ofNat 0), .bool false, .int .i64 (.ofNat 0), .bool false, .bool false, .int .i64 (.negSucc 0), .bool false, .int .i64 (.ofNat 0), .bool false, .bool false, .int .i64 (.negSucc 0), .bool false, .int .i64 (.ofNat 0), .bool false, .bool false, .int .i64 (.negSucc 0), .bool false, .int .i64 (.ofNat 0), .bool false, .bool false, .int .i64 (.negSucc 0), .bool false, .int .i64 (.ofNat 0), .bool false, .bool false, .int .i64 (.negSucc 0), .bool false, .int .i64 (.ofNat 0), .bool false, .bool false, .int .i64 (.negSucc 0), .int .i64 (.ofNat 0), .int .i64 (.ofNat 0)]),
  (261, .cells false [.int .i64 (.ofNat 1), .int .u8 (.ofNat 1), .int .i64 (.ofNat 1), .int .i64 (.ofNat 0)]),
  (263, .cells false [.int .i64 (.ofNat 0), .sl ⟨.d5, .d0, .d1⟩ 0 1 (.op 4)]),
  (388, .cells false [.sl ⟨.d5, .d8, .d1⟩ 0 13 (.op 1), .int .i64 (.ofNat 13)]),
  (389, .cells false [.int .u8 (.ofNat 5), .int .u8 (.ofNat 0), .int .u8 (.ofNat 0), .int .u8 (.ofNat 0), .int .u8 (.ofNat 122), .int .u8 (.ofNat 137), .int .u8 (.ofNat 153), .int .u8 (.ofNat 93), .int .u8 (.ofNat 0), .int .u8 (.ofNat 2), .int .u8 (.ofNat 2), .int .u8 (.ofNat 2), .int .u8 (.ofNat 0)]),
  (426, .map 1 [(.str [47], .ptr ⟨.d15, .d10, .d1⟩ 0)] [0]),
  (429, .cells false [.mp ⟨.d10, .d10, .d1⟩, .mp ⟨.d1, .d11, .d1⟩]),
  (431, .cells false [.nils, .int .i64 (.ofNat 0), .int .i64 (.ofNat 0), .int .i64 (.ofNat 0), .int .i64 (.ofNat 0), .int .i64 (.ofNat 0), .int .i64 (.ofNat 0), .int .i64 (.ofNat 0), .int .i64 (.ofNat 0), .int .i64 (.ofNat 0), .int .i64 (.ofNat 0)]),
  (433, .map 0 [] []),
  (441, .cells false [.int .i64 (.ofNat 1), .int .u8 (.ofNat 1), .int .i64 (.ofNat 1), .int .i64 (.ofNat 0)]),
  (442, .map 0 [] []),
  (443, .cells false [.ptr ⟨.d13, .d10, .d1⟩ 0, .int .i64 (.ofNat 0), .sl ⟨.d9, .d11, .d1⟩ 0 1 (.op 4), .bool false, .mp ⟨.d10, .d11, .d1⟩, .int .i64 (.ofNat 0), .int .i64 (.ofNat 0), .nils]),
  (477, .map 1 [(.str [47], .ptr ⟨.d2, .d14, .d1⟩ 0)] [0]),
  (480, .cells false [.mp ⟨.d13, .d13, .d1⟩, .mp ⟨.d4, .d14, .d1⟩]),
  (482, .cells false [.nils, .int .i64 (.ofNat 0), .int .i64 (.ofNat 0), .int .i64 (.ofNat 0), .int .i64 (.ofNat 0), .int .i64 (.ofNat 0), .int .i64 (.ofNat 0), .int .i64 (.ofNat 0), .int .i64 (.ofNat 0), .int .i64 (.ofNat 0), .int .i64 (.ofNat 0)]),
  (484, .map 0 [] []),
  (485, .map 0 [] []),
  (486, .cells false [.mp ⟨.d5, .d14, .d1⟩]),
  (487, .map 0 [] []),
  (488, .cells false [.int .i64 (.ofNat 12), .mp ⟨.d7, .d14, .d1⟩])]
end
end Go.Proofs.Tryz
namespace Go.Proofs.Tryz
open Go Go.Ev Go.RowKit
noncomputable section
def nx2 : Nat := 1719
def tl2 : List (Nat × V) := [(0, .bool false),
  (1, .ptr ⟨.d7, .d11, .d0⟩ 0),
  (2, .int .i64 (.ofNat 4294967297))]
def hl2 : List (Nat × Blk) := [(2, .cells true firstL), (3, .cells true accL), (0, .cells true [.int .i64 (.ofNat 0), .int .i64 (.ofNat 23), .int .i64 (.ofNat 17), .int .i64 (.ofNat 11), .int .i64 (.ofNat 32), .int .i64 (.ofNat 260), .int .i64 (.ofNat 0), .int .i64 (.ofNat 128), .int .i64 (.ofNat 256), .int .i64 (.ofNat 64)]),
  (64, .map 7 [(.str [110, 111, 119], .ptr ⟨.d4, .d8, .d1⟩ 0), (.str [103, 97, 46, 48, 48, 48, 48, 48, 48, 48, 48, 48, 48], .ptr ⟨.d4, .d0, .d5⟩ 0)] [5, 6]),
  (65, .cells false [.int .i64 (.ofNat 4194304), .int .i64 (.ofNat 35), .mp ⟨.d0, .d4, .d0⟩]),
  (80, .cells false [.int .i64 (.ofNat 1), .int .u8 (.ofNat 1), .int .i64 (.ofNat 1), .int .i64 (.ofNat 0)]),
  (81, .cells false [.ptr ⟨.d1, .d4, .d0⟩ 0, .int .i64 (.ofNat 0), .int .i64 (.ofNat 1), .int .i64 (.ofNat 1), .int .i64 (.ofNat 1), .int .i64 (.ofNat 0), .ptr ⟨.d7, .d5, .d0⟩ 0, .nils, .int .i64 (.ofNat 0), .int .i64 (.ofNat 0), .int .i64 (.ofNat 0), .sl ⟨.d0, .d5, .d0⟩ 0 1 (.op 4)]),
  (87, .cells false [.ptr ⟨.d1, .d4, .d0⟩ 0, .str [103, 97], .sl ⟨.d7, .d0, .d5⟩ 0 1 (.op 1)]),
  (110, .map 1 [(.str [47], .ptr ⟨.d15, .d6, .d0⟩ 0)] [0]),
  (111, .cells false [.nils, .int .i64 (.ofNat 0), .int .i64 (.ofNat 0), .int .i64 (.ofNat 0), .int .i64 (.ofNat 0), .int .i64 (.ofNat 0), .int .i64 (.ofNat 0), .int .i64 (.ofNat 0), .int .i64 (.ofNat 0), .int .i64 (.ofNat 0), .int .i64 (.ofNat 0)]),
  (112, .map 1 [(.int .i64 (.ofNat 4294967297), .agg [.int .i64 (.ofNat 4294967297), .int .i64 (.ofNat 30), .int .i64 (.ofNat 1)])] [0]),
  (113, .cells false [.mp ⟨.d14, .d6, .d0⟩, .mp ⟨.d0, .d7, .d0⟩]),
  (114, .map 0 [] []),
  (115, .map 1 [(.int .i64 (.ofNat 4294967297), .int .i64 (.ofNat 4))] [0]),
  (116, .map 0 [] []),
  (117, .cells false [.int .i64 (.ofNat 1), .int .i64 (.ofNat 1), .ptr ⟨.d1, .d5, .d0⟩ 0, .mp ⟨.d2, .d7, .d0⟩, .int .i64 (.ofNat 1048576), .int .i64 (.ofNat 12), .int .i64 (.ofNat 2), .int .u8 (.ofNat 3), .int .i64 (.ofNat 1), .int .i64 (.ofNat 0), .int .i64 (.ofNat 0), .ptr ⟨.d6, .d8, .d0⟩ 0, .ptr ⟨.d14, .d15, .d0⟩ 0, .nilp, .mp ⟨.d2, .d15, .d0⟩, .bool true, .bool true, .bool true, .ptr ⟨.d11, .d11, .d1⟩ 0, .mp ⟨.d3, .d15, .d0⟩, .ptr ⟨.d1, .d7, .d0⟩ 0, .int .i64 (.ofNat 4294967297), .int .i64 (.ofNat 0), .sl ⟨.d9, .d7, .d0⟩ 0 1 (.op 4), .nilp, .int .i64 (.ofNat 1), .nils, .nils, .mp ⟨.d3, .d7, .d0⟩, .int .i64 (.ofNat 1), .int .i64 (.ofNat 1), .bool false, .nils, .mp ⟨.d4, .d7, .d0⟩, .int .i64 (.ofNat 0), .bool false]),
  (121, .cells false [.int .i64 (.ofNat 1), .int .u8 (.ofNat 1), .int .i64 (.ofNat 1), .int .i64 (.ofNat 0)]),
  (134, .cells false [.int .i64 (.ofNat 1), .int .i64 (.ofNat 1), .int .i64 (.ofNat 0), .int .i64 (.ofNat 0), .sl ⟨.d15, .d9, .d0⟩ 0 1 (.op 2), .int .i64 (.ofNat 2), .int .i64 (.ofNat 1), .int .i64 (.ofNat 0), .int .i64 (.ofNat 0), .mp ⟨.d3, .d10, .d0⟩, .int .i64 (.ofNat 2)]),
  (159, .cells false [.int .i64 (.ofNat 0), .sl ⟨.d1, .d10, .d0⟩ 0 1 (.op 4)]),
  (161, .cells false [.int .i64 (.ofNat 1), .int .u8 (.ofNat 1), .int .i64 (.ofNat 1), .int .i64 (.ofNat 0)]),
  (163, .map 0 [] []),
  (171, .map 1 [(.int .i64 (.ofNat 1), .ptr ⟨.d14, .d4, .d4⟩ 0)] [0]),
  (182, .cells false [.int .i64 (.ofNat 1), .int .i64 (.ofNat 1), .ptr ⟨.d5, .d7, .d0⟩ 0, .int .i64 (.ofNat 12), .mp ⟨.d11, .d10, .d0⟩, .int .i64 (.ofNat 1048577), .int .i64 (.ofNat 1), .int .i64 (.ofNat 1), .ptr ⟨.d0, .d14, .d1⟩ 0, .int .i64 (.ofNat 4294967297), .ptr ⟨.d6, .d14, .d1⟩ 0, .ptr ⟨.d8, .d14, .d1⟩ 0, .nils, .nils]),
  (183, .cells false [.ptr ⟨.d6, .d11, .d0⟩ 0, .sl ⟨.d11, .d11, .d0⟩ 0 1 (.op 1), .sl ⟨.d5, .d11, .d5⟩ 0 1 (.op 16), .bool false]),
  (184, .cells false [.int .i64 (.ofNat 5), .int .i64 (.ofNat 1048577), .sl ⟨.d9, .d2, .d4⟩ 1 0 (.op 1), .int .i64 (.ofNat 1), .int .i64 (.ofNat 1)]),
  (185, .cells false [.int .i64 (.ofNat 1), .ptr ⟨.d8, .d11, .d0⟩ 0, .nils, .bool false]),
  (187, .cells false [.ptr ⟨.d9, .d11, .d0⟩ 0]),
  (242, .map 0 [] []),
  (243, .map 0 [] []),
  (254, .cells false [.int .i64 (.ofNat 1), .int .i64 (.ofNat 0), .int .i64 (.ofNat 0), .sl ⟨.d7, .d0, .d1⟩ 0 1 (.op 2), .int .u8 (.ofNat 4), .int .i64 (.ofNat 1), .bool false, .int .i64 (.ofNat 0), .bool false, .bool false, .int .i64 (.negSucc 0), .bool true, .int .i64 (.ofNat 0), .bool true, .bool true, .int .i64 (.ofNat 4294967297), .bool false, .int .i64 (.ofNat 0), .bool false, .bool false, .int .i64 (.negSucc 0), .bool false, .int .i64 (.ofNat 0), .bool false, .bool false, .int .i64 (.negSucc 0), .bool false, .int .i64 (.ofNat 0), .bool false, .bool false, .int .i64 (.negSucc 0), .bool false, .int .i64 (.ofNat 0), .bool false, .bool false, .int .i64 (.negSucc 0), .bool false, .int .i64 (.ofNat 0), .bool false, .bool false, .int .i64 (.negSucc 0), .bool false, .int .i64 (.ofNat 0), .bool false, .bool false, .int .i64 (.negSucc 0), .int .i64 (.ofNat 1), .int .i64 (.ofNat 4294967297)]),
  (261, .cells false [.int .i64 (.ofNat 1), .int .u8 (.ofNat 1), .int .i64 (.ofNat 1), .int .i64 (.ofNat 0)]),
  (263, .cells false [.int .i64 (.ofNat 0), .sl ⟨.d5, .d0, .d1⟩ 0 1 (.op 4)]),
  (388, .cells false [.sl ⟨.d5, .d8, .d1⟩ 0 13 (.op 1), .int .i64 (.ofNat 13)]),
  (389, .cells false [.int .u8 (.ofNat 5), .int .u8 (.ofNat 0), .int .u8 (.ofNat 0), .int .u8 (.ofNat 0), .int .u8 (.ofNat 122), .int .u8 (.ofNat 137), .int .u8 (.ofNat 153), .int .u8 (.ofNat 93), .int .u8 (.ofNat 0), .int .u8 (.ofNat 2), .int .u8 (.ofNat 2), .int .u8 (.ofNat 2), .int .u8 (.ofNat 0)]),
  (426, .map 1 [(.str [47], .ptr ⟨.d15, .d10, .d1⟩ 0)] [0]),
  (429, .cells false [.mp ⟨.d10, .d10, .d1⟩, .mp ⟨.d1, .d11, .d1⟩]),
  (431, .cells false [.nils, .int .i64 (.ofNat 0), .int .i64 (.ofNat 0), .int .i64 (.ofNat 0), .int .i64 (.ofNat 0), .int .i64 (.ofNat 0), .int .i64 (.ofNat 0), .int .i64 (.ofNat 0), .int .i64 (.ofNat 0), .int .i64 (.ofNat 0), .int .i64 (.ofNat 0)]),
  (433, .map 1 [(.int .i64 (.ofNat 4294967297), .agg [.int .i64 (.ofNat 4294967297), .int .i64 (.ofNat 30), .int .i64 (.ofNat 1)])] [0]),
  (441, .cells false [.int .i64 (.ofNat 1), .int .u8 (.ofNat 1), .int .i64 (.ofNat 1), .int .i64 (.ofNat 0)]),
  (442, .map 0 [] []),
  (443, .cells false [.ptr ⟨.d13, .d10, .d1⟩ 0, .int .i64 (.ofNat 0), .sl ⟨.d9, .d11, .d1⟩ 0 1 (.op 4), .bool false, .mp ⟨.d10, .d11, .d1⟩, .int .i64 (.ofNat 4294967297), .int .i64 (.ofNat 12), .sl ⟨.d7, .d14, .d4⟩ 0 0 (.op 1)]),
  (477, .map 1 [(.str [47], .ptr ⟨.d2, .d14, .d1⟩ 0)] [0]),
  (480, .cells false [.mp ⟨.d13, .d13, .d1⟩, .mp ⟨.d4, .d14, .d1⟩]),
  (482, .cells false [.nils, .int .i64 (.ofNat 0), .int .i64 (.ofNat 0), .int .i64 (.ofNat 0), .int .i64 (.ofNat 0), .int .i64 (.ofNat 0), .int .i64 (.ofNat 0), .int .i64 (.ofNat 0), .int .i64 (.ofNat 0), .int .i64 (.ofNat 0), .int .i64 (.ofNat 0)]),
  (484, .map 1 [(.int .i64 (.ofNat 4294967297), .agg [.int .i64 (.ofNat 4294967297), .int .i64 (.ofNat 30), .int .i64 (.ofNat 1)])] [0]),
  (485, .map 0 [] []),
  (486, .cells false [.mp ⟨.d5, .d14, .d1⟩]),
  (487, .map 1 [(.int .i64 (.ofNat 4294967297), .agg [.int .i64 (.ofNat 30), .int .i64 (.ofNat 44)])] [0]),
  (488, .cells false [.int .i64 (.ofNat 12), .mp ⟨.d7, .d14, .d1⟩]),
  (1063, .cells false [.int .u8 (.ofNat 1), .int .u8 (.ofNat 0), .int .u8 (.ofNat 0), .int .u8 (.ofNat 2), .int .u8 (.ofNat 0), .int .u8 (.ofNat 60)]),
  (1065, .cells false [.sl ⟨.d7, .d2, .d4⟩ 0 6 (.op 1)]),
  (1101, .cells false [.int .i64 (.ofNat 1048577), .int .i64 (.ofNat 5), .int .i64 (.ofNat 1), .int .i64 (.ofNat 1), .sl ⟨.d6, .d7, .d5⟩ 1 0 (.op 1)]),
  (1102, .cells false [.int .i64 (.ofNat 1), .ptr ⟨.d13, .d4, .d4⟩ 0, .int .i64 (.ofNat 1), .int .i64 (.ofNat 4294967297), .int .i64 (.ofNat 1), .int .i64 (.ofNat 0), .int .u8 (.ofNat 0), .int .i64 (.ofNat 0), .int .i64 (.ofNat 0), .int .i64 (.ofNat 0), .str [], .nils, .int .i64 (.ofNat 0), .int .i64 (.ofNat 0), .bool false, .int .u8 (.ofNat 0), .int .i64 (.ofNat 0), .int .i64 (.ofNat 0), .int .i64 (.ofNat 0), .nils, .nils, .int .i64 (.ofNat 0), .bool true, .ptr ⟨.d15, .d4, .d4⟩ 0, .int .i64 (.ofNat 12), .bool false]),
  (1103, .cells false [.int .u8 (.ofNat 0), .int .i64 (.ofNat 0), .int .i64 (.ofNat 0), .int .i64 (.ofNat 0), .str [], .nils, .int .i64 (.ofNat 0), .int .i64 (.ofNat 0), .bool false, .int .u8 (.ofNat 0), .int .i64 (.ofNat 0), .int .i64 (.ofNat 0), .int .i64 (.ofNat 0), .nils, .nils, .int .u8 (.ofNat 0), .int .i64 (.ofNat 0), .int .i64 (.ofNat 0), .int .i64 (.ofNat 0), .str [], .nils, .int .i64 (.ofNat 0), .int .i64 (.ofNat 0), .bool false, .int .u8 (.ofNat 0), .int .i64 (.ofNat 0), .int .i64 (.ofNat 0), .int .i64 (.ofNat 0), .nils, .nils, .int .u8 (.ofNat 0), .int .i64 (.ofNat 0), .int .i64 (.ofNat 0), .int .i64 (.ofNat 0), .str [], .nils, .int .i64 (.ofNat 0), .int .i64 (.ofNat 0), .bool false, .int .u8 (.ofNat 0), .int .i64 (.ofNat 0), .int .i64 (.ofNat 0), .int .i64 (.ofNat 0), .nils, .nils, .int .u8 (.ofNat 0), .int .i64 (.ofNat 0), .int .i64 (.ofNat 0), .int .i64 (.ofNat 0), .str [], .nils, .int .i64 (.ofNat 0), .int .i64 (.ofNat 0), .bool false, .int .u8 (.ofNat 0), .int .i64 (.ofNat 0), .int .i64 (.ofNat 0), .int .i64 (.ofNat 0), .nils, .nils, .int .u8 (.ofNat 0), .int .i64 (.ofNat 0), .int .i64 (.ofNat 0), .int .i64 (.ofNat 0), .str [], .nils, .int .i64 (.ofNat 0), .int .i64 (.ofNat 0), .bool false, .int .u8 (.ofNat 0), .int .i64 (.ofNat 0), .int .i64 (.ofNat 0), .int .i64 (.ofNat 0), .nils, .nils, .int .u8 (.ofNat 0), .int .i64 (.ofNat 0), .int .i64 (.ofNat 0), .int .i64 (.ofNat 0), .str [], .nils, .int .i64 (.ofNat 0), .int .i64 (.ofNat 0), .bool false, .int .u8 (.ofNat 0), .int .i64 (.ofNat 0), .int .i64 (.ofNat 0), .int .i64 (.ofNat 0), .nils, .nils, .int .u8 (.ofNat 0), .int .i64 (.ofNat 0), .int .i64 (.ofNat 0), .int .i64 (.ofNat 0), .str [], .nils, .int .i64 (.ofNat 0), .int .i64 (.ofNat 0), .bool false, .int .u8 (.ofNat 0), .int .i64 (.ofNat 0), .int .i64 (.ofNat 0), .int .i64 (.ofNat 0), .nils, .nils, .int .u8 (.ofNat 0), .int .i64 (.ofNat 0), .int .i64 (.ofNat 0), .int .i64 (.ofNat 0), .str [], .nils, .int .i64 (.ofNat 0), .int .i64 (.ofNat 0), .bool false, .int .u8 (.ofNat 0), .int .i64 (.ofNat 0), .int .i64 (.ofNat 0), .int .i64 (.ofNat 0), .nils, .nils, .int .i64 (.ofNat 0), .int .i64 (.ofNat 0), .bool true]),
  (1255, .cells false [.int .i64 (.ofNat 0)]),
  (1282, .cells false [.sl ⟨.d10, .d0, .d5⟩ 0 1 (.op 16), .sl ⟨.d11, .d0, .d5⟩ 0 1 (.op 1), .int .i64 (.ofNat 0), .bool false]),
  (1284, .cells false [.sl ⟨.d5, .d0, .d5⟩ 0 22 (.op 1), .int .i64 (.ofNat 22)]),
  (1285, .cells false [.int .u8 (.ofNat 14), .int .u8 (.ofNat 0), .int .u8 (.ofNat 0), .int .u8 (.ofNat 0), .int .u8 (.ofNat 150), .int .u8 (.ofNat 87), .int .u8 (.ofNat 85), .int .u8 (.ofNat 85), .int .u8 (.ofNat 4), .int .u8 (.ofNat 130), .int .u8 (.ofNat 128), .int .u8 (.ofNat 128), .int .u8 (.ofNat 128), .int .u8 (.ofNat 32), .int .u8 (.ofNat 0), .int .u8 (.ofNat 2), .int .u8 (.ofNat 162), .int .u8 (.ofNat 128), .int .u8 (.ofNat 128), .int .u8 (.ofNat 16), .int .u8 (.ofNat 24), .int .u8 (.ofNat 60)]),
  (1287, .cells false [.ptr ⟨.d2, .d0, .d5⟩ 0]),
  (1290, .cells false [.int .i64 (.ofNat 4294967297), .int .u8 (.ofNat 4), .int .i64 (.ofNat 0), .int .i64 (.ofNat 1), .int .i64 (.ofNat 16777233), .int .i64 (.ofNat 12), .str [], .nils, .int .i64 (.ofNat 0), .int .i64 (.ofNat 0), .int .i64 (.ofNat 0), .int .i64 (.ofNat 30), .int .i64 (.ofNat 0), .int .i64 (.ofNat 0), .nils, .nils]),
  (1291, .cells false [.int .i64 (.ofNat 22)]),
  (1396, .cells false [.int .u8 (.ofNat 1), .int .u8 (.ofNat 1), .int .u8 (.ofNat 0), .int .u8 (.ofNat 130), .int .u8 (.ofNat 128), .int .u8 (.ofNat 128), .int .u8 (.ofNat 128), .int .u8 (.ofNat 32), .int .u8 (.ofNat 0), .int .u8 (.ofNat 130), .int .u8 (.ofNat 128), .int .u8 (.ofNat 128), .int .u8 (.ofNat 128), .int .u8 (.ofNat 32), .int .u8 (.ofNat 60), .int .u8 (.ofNat 0), .int .u8 (.ofNat 0), .int .u8 (.ofNat 0), .int .u8 (.ofNat 0), .int .u8 (.ofNat 0), .int .u8 (.ofNat 0), .int .u8 (.ofNat 0), .int .u8 (.ofNat 0), .int .u8 (.ofNat 0), .int .u8 (.ofNat 0), .int .u8 (.ofNat 0), .int .u8 (.ofNat 0), .int .u8 (.ofNat 0), .int .u8 (.ofNat 0), .int .u8 (.ofNat 0)]),
  (1398, .cells false [.sl ⟨.d4, .d7, .d5⟩ 0 30 (.op 1)]),
  (1461, .cells false [.int .i64 (.ofNat 4294967297), .int .u8 (.ofNat 4), .int .i64 (.ofNat 0), .int .i64 (.ofNat 1), .int .i64 (.ofNat 16777233), .int .i64 (.ofNat 12), .str [], .nils, .int .i64 (.ofNat 0), .int .i64 (.ofNat 0), .int .i64 (.ofNat 0), .int .i64 (.ofNat 30), .int .i64 (.ofNat 0), .int .i64 (.ofNat 0), .nils, .nils])]
end
end Go.Proofs.Tryz
namespace Go.Proofs.Tryz
open Go Go.Ev Go.RowKit
noncomputable section
def nx3 : Nat := 1750
def tl3 : List (Nat × V) := [(0, .bool false),
  (1, .ptr ⟨.d7, .d11, .d0⟩ 0),
  (2, .int .i64 (.ofNat 4294967297))]
def hl3 : List (Nat × Blk) := [(2, .cells true firstL), (3, .cells true accL), (0, .cells true [.int .i64 (.ofNat 0), .int .i64 (.ofNat 23), .int .i64 (.ofNat 17), .int .i64 (.ofNat 11), .int .i64 (.ofNat 32), .int .i64 (.ofNat 260), .int .i64 (.ofNat 0), .int .i64 (.ofNat 128), .int .i64 (.ofNat 256), .int .i64 (.ofNat 64)]),
  (64, .map 7 [(.str [110, 111, 119], .ptr ⟨.d4, .d8, .d1⟩ 0), (.str [103, 97, 46, 48, 48, 48, 48, 48, 48, 48, 48, 48, 48], .ptr ⟨.d4, .d0, .d5⟩ 0)] [5, 6]),
  (65, .cells false [.int .i64 (.ofNat 4194304), .int .i64 (.ofNat 35), .mp ⟨.d0, .d4, .d0⟩]),
  (80, .cells false [.int .i64 (.ofNat 1), .int .u8 (.ofNat 1), .int .i64 (.ofNat 1), .int .i64 (.ofNat 0)]),
  (81, .cells false [.ptr ⟨.d1, .d4, .d0⟩ 0, .int .i64 (.ofNat 0), .int .i64 (.ofNat 1), .int .i64 (.ofNat 1), .int .i64 (.ofNat 1), .int .i64 (.ofNat 0), .ptr ⟨.d7, .d5, .d0⟩ 0, .nils, .int .i64 (.ofNat 0), .int .i64 (.ofNat 0), .int .i64 (.ofNat 0), .sl ⟨.d0, .d5, .d0⟩ 0 1 (.op 4)]),
  (87, .cells false [.ptr ⟨.d1, .d4, .d0⟩ 0, .str [103, 97], .sl ⟨.d7, .d0, .d5⟩ 0 1 (.op 1)]),
  (110, .map 1 [(.str [47], .ptr ⟨.d15, .d6, .d0⟩ 0)] [0]),
  (111, .cells false [.nils, .int .i64 (.ofNat 0), .int .i64 (.ofNat 0), .int .i64 (.ofNat 0), .int .i64 (.ofNat 0), .int .i64 (.ofNat 0), .int .i64 (.ofNat 0), .int .i64 (.ofNat 0), .int .i64 (.ofNat 0), .int .i64 (.ofNat 0), .int .i64 (.ofNat 0)]),
  (112, .map 1 [(.int .i64 (.ofNat 4294967297), .agg [.int .i64 (.ofNat 4294967297), .int .i64 (.ofNat 30), .int .i64 (.ofNat 1)])] [0]),
  (113, .cells false [.mp ⟨.d14, .d6, .d0⟩, .mp ⟨.d0, .d7, .d0⟩]),
  (114, .map 0 [] []),
  (115, .map 1 [(.int .i64 (.ofNat 4294967297), .int .i64 (.ofNat 4))] [0]),
  (116, .map 0 [] []),
  (117, .cells false [.int .i64 (.ofNat 1), .int .i64 (.ofNat 1), .ptr ⟨.d1, .d5, .d0⟩ 0, .mp ⟨.d2, .d7, .d0⟩, .int .i64 (.ofNat 1048576), .int .i64 (.ofNat 12), .int .i64 (.ofNat 2), .int .u8 (.ofNat 3), .int .i64 (.ofNat 1), .int .i64 (.ofNat 0), .int .i64 (.ofNat 0), .ptr ⟨.d6, .d8, .d0⟩ 0, .ptr ⟨.d14, .d15, .d0⟩ 0, .nilp, .mp ⟨.d2, .d15, .d0⟩, .bool true, .bool true, .bool true, .ptr ⟨.d11, .d11, .d1⟩ 0, .mp ⟨.d3, .d15, .d0⟩, .ptr ⟨.d1, .d7, .d0⟩ 0, .int .i64 (.ofNat 4294967297), .int .i64 (.ofNat 0), .sl ⟨.d9, .d7, .d0⟩ 0 1 (.op 4), .nilp, .int .i64 (.ofNat 1), .nils, .nils, .mp ⟨.d3, .d7, .d0⟩, .int .i64 (.ofNat 1), .int .i64 (.ofNat 1), .bool false, .nils, .mp ⟨.d4, .d7, .d0⟩, .int .i64 (.ofNat 0), .bool false]),
  (121, .cells false [.int .i64 (.ofNat 1), .int .u8 (.ofNat 1), .int .i64 (.ofNat 1), .int .i64 (.ofNat 0)]),
  (134, .cells false [.int .i64 (.ofNat 1), .int .i64 (.ofNat 1), .int .i64 (.ofNat 0), .int .i64 (.ofNat 0), .sl ⟨.d15, .d9, .d0⟩ 0 1 (.op 2), .int .i64 (.ofNat 2), .int .i64 (.ofNat 1), .int .i64 (.ofNat 0), .int .i64 (.ofNat 0), .mp ⟨.d3, .d10, .d0⟩, .int .i64 (.ofNat 2)]),
  (159, .cells false [.int .i64 (.ofNat 0), .sl ⟨.d1, .d10, .d0⟩ 0 1 (.op 4)]),
  (161, .cells false [.int .i64 (.ofNat 1), .int .u8 (.ofNat 1), .int .i64 (.ofNat 1), .int .i64 (.ofNat 0)]),
  (163, .map 0 [] []),
  (171, .map 1 [(.int .i64 (.ofNat 1), .ptr ⟨.d14, .d4, .d4⟩ 0)] [0]),
  (182, .cells false [.int .i64 (.ofNat 1), .int .i64 (.ofNat 1), .ptr ⟨.d5, .d7, .d0⟩ 0, .int .i64 (.ofNat 12), .mp ⟨.d11, .d10, .d0⟩, .int .i64 (.ofNat 1048577), .int .i64 (.ofNat 1), .int .i64 (.ofNat 1), .ptr ⟨.d0, .d14, .d1⟩ 0, .int .i64 (.ofNat 4294967297), .ptr ⟨.d6, .d14, .d1⟩ 0, .ptr ⟨.d8, .d14, .d1⟩ 0, .nils, .nils]),
  (183, .cells false [.ptr ⟨.d6, .d11, .d0⟩ 0, .sl ⟨.d11, .d11, .d0⟩ 0 1 (.op 1), .sl ⟨.d5, .d11, .d5⟩ 0 1 (.op 16), .bool false]),
  (184, .cells false [.int .i64 (.ofNat 5), .int .i64 (.ofNat 1048577), .sl ⟨.d5, .d13, .d6⟩ 0 1 (.op 1), .int .i64 (.ofNat 1), .int .i64 (.ofNat 1)]),
  (185, .cells false [.int .i64 (.ofNat 1), .ptr ⟨.d8, .d11, .d0⟩ 0, .nils, .bool false]),
  (187, .cells false [.ptr ⟨.d9, .d11, .d0⟩ 0]),
  (242, .map 0 [] []),
  (243, .map 0 [] []),
  (254, .cells false [.int .i64 (.ofNat 1), .int .i64 (.ofNat 0), .int .i64 (.ofNat 0), .sl ⟨.d7, .d0, .d1⟩ 0 1 (.op 2), .int .u8 (.ofNat 4), .int .i64 (.ofNat 1), .bool false, .int .i64 (.ofNat 0), .bool false, .bool false, .int .i64 (.negSucc 0), .bool true, .int .i64 (.ofNat 0), .bool true, .bool true, .int .i64 (.ofNat 4294967297), .bool false, .int .i64 (.ofNat 0), .bool false, .bool false, .int .i64 (.negSucc 0), .bool false, .int .i64 (.ofNat 0), .bool false, .bool false, .int .i64 (.negSucc 0), .bool false, .int .i64 (.ofNat 0), .bool false, .bool false, .int .i64 (.negSucc 0), .bool false, .int .i64 (.ofNat 0), .bool false, .bool false, .int .i64 (.negSucc 0), .bool false, .int .i64 (.ofNat 0), .bool false, .bool false, .int .i64 (.negSucc 0), .bool false, .int .i64 (.ofNat 0), .bool false, .bool false, .int .i64 (.negSucc 0), .int .i64 (.ofNat 1), .int .i64 (.ofNat 4294967297)]),
  (261, .cells false [.int .i64 (.ofNat 1), .int .u8 (.ofNat 1), .int .i64 (.ofNat 1), .int .i64 (.ofNat 0)]),
  (263, .cells false [.int .i64 (.ofNat 0), .sl ⟨.d5, .d0, .d1⟩ 0 1 (.op 4)]),
  (388, .cells false [.sl ⟨.d5, .d8, .d1⟩ 0 13 (.op 1), .int .i64 (.ofNat 13)]),
  (389, .cells false [.int .u8 (.ofNat 5), .int .u8 (.ofNat 0), .int .u8 (.ofNat 0), .int .u8 (.ofNat 0), .int .u8 (.ofNat 122), .int .u8 (.ofNat 137), .int .u8 (.ofNat 153), .int .u8 (.ofNat 93), .int .u8 (.ofNat 0), .int .u8 (.ofNat 2), .int .u8 (.ofNat 2), .int .u8 (.ofNat 2), .int .u8 (.ofNat 0)]),
  (426, .map 1 [(.str [47], .ptr ⟨.d15, .d10, .d1⟩ 0)] [0]),
  (429, .cells false [.mp ⟨.d10, .d10, .d1⟩, .mp ⟨.d1, .d11, .d1⟩]),
  (431, .cells false [.nils, .int .i64 (.ofNat 0), .int .i64 (.ofNat 0), .int .i64 (.ofNat 0), .int .i64 (.ofNat 0), .int .i64 (.ofNat 0), .int .i64 (.ofNat 0), .int .i64 (.ofNat 0), .int .i64 (.ofNat 0), .int .i64 (.ofNat 0), .int .i64 (.ofNat 0)]),
  (433, .map 1 [(.int .i64 (.ofNat 4294967297), .agg [.int .i64 (.ofNat 4294967297), .int .i64 (.ofNat 30), .int .i64 (.ofNat 1)])] [0]),
  (441, .cells false [.int .i64 (.ofNat 1), .int .u8 (.ofNat 1), .int .i64 (.ofNat 1), .int .i64 (.ofNat 0)]),
  (442, .map 0 [] []),
  (443, .cells false [.ptr ⟨.d13, .d10, .d1⟩ 0, .int .i64 (.ofNat 0), .sl ⟨.d9, .d11, .d1⟩ 0 1 (.op 4), .bool false, .mp ⟨.d10, .d11, .d1⟩, .int .i64 (.ofNat 4294967297), .int .i64 (.ofNat 12), .sl ⟨.d7, .d14, .d4⟩ 0 0 (.op 1)]),
  (477, .map 1 [(.str [47], .ptr ⟨.d2, .d14, .d1⟩ 0)] [0]),
  (480, .cells false [.mp ⟨.d13, .d13, .d1⟩, .mp ⟨.d4, .d14, .d1⟩]),
  (482, .cells false [.nils, .int .i64 (.ofNat 0), .int .i64 (.ofNat 0), .int .i64 (.ofNat 0), .int .i64 (.ofNat 0), .int .i64 (.ofNat 0), .int .i64 (.ofNat 0), .int .i64 (.ofNat 0), .int .i64 (.ofNat 0), .int .i64 (.ofNat 0), .int .i64 (.ofNat 0)]),
  (484, .map 1 [(.int .i64 (.ofNat 4294967297), .agg [.int .i64 (.ofNat 4294967297), .int .i64 (.ofNat 30), .int .i64 (.ofNat 1)])] [0]),
  (485, .map 0 [] []),
  (486, .cells false [.mp ⟨.d5, .d14, .d1⟩]),
  (487, .map 1 [(.int .i64 (.ofNat 4294967297), .agg [.int .i64 (.ofNat 30), .int .i64 (.ofNat 44)])] [0]),
  (488, .cells false [.int .i64 (.ofNat 12), .mp ⟨.d7, .d14, .d1⟩]),
  (1101, .cells false [.int .i64 (.ofNat 1048577), .int .i64 (.ofNat 5), .int .i64 (.ofNat 1), .int .i64 (.ofNat 1), .sl ⟨.d6, .d7, .d5⟩ 1 0 (.op 1)]),
  (1102, .cells false [.int .i64 (.ofNat 1), .ptr ⟨.d13, .d4, .d4⟩ 0, .int .i64 (.ofNat 1), .int .i64 (.ofNat 4294967297), .int .i64 (.ofNat 1), .int .i64 (.ofNat 0), .int .u8 (.ofNat 0), .int .i64 (.ofNat 0), .int .i64 (.ofNat 0), .int .i64 (.ofNat 0), .str [], .nils, .int .i64 (.ofNat 0), .int .i64 (.ofNat 0), .bool false, .int .u8 (.ofNat 0), .int .i64 (.ofNat 0), .int .i64 (.ofNat 0), .int .i64 (.ofNat 0), .nils, .nils, .int .i64 (.ofNat 0), .bool true, .ptr ⟨.d15, .d4, .d4⟩ 0, .int .i64 (.ofNat 12), .bool false]),
  (1103, .cells false [.int .u8 (.ofNat 0), .int .i64 (.ofNat 0), .int .i64 (.ofNat 0), .int .i64 (.ofNat 0), .str [], .nils, .int .i64 (.ofNat 0), .int .i64 (.ofNat 0), .bool false, .int .u8 (.ofNat 0), .int .i64 (.ofNat 0), .int .i64 (.ofNat 0), .int .i64 (.ofNat 0), .nils, .nils, .int .u8 (.ofNat 0), .int .i64 (.ofNat 0), .int .i64 (.ofNat 0), .int .i64 (.ofNat 0), .str [], .nils, .int .i64 (.ofNat 0), .int .i64 (.ofNat 0), .bool false, .int .u8 (.ofNat 0), .int .i64 (.ofNat 0), .int .i64 (.ofNat 0), .int .i64 (.ofNat 0), .nils, .nils, .int .u8 (.ofNat 0), .int .i64 (.ofNat 0), .int .i64 (.ofNat 0), .int .i64 (.ofNat 0), .str [], .nils, .int .i64 (.ofNat 0), .int .i64 (.ofNat 0), .bool false, .int .u8 (.ofNat 0), .int .i64 (.ofNat 0), .int .i64 (.ofNat 0), .int .i64 (.ofNat 0), .nils, .nils, .int .u8 (.ofNat 0), .int .i64 (.ofNat 0), .int .i64 (.ofNat 0), .int .i64 (.ofNat 0), .str [], .nils, .int .i64 (.ofNat 0), .int .i64 (.ofNat 0), .bool false, .int .u8 (.ofNat 0), .int .i64 (.ofNat 0), .int .i64 (.ofNat 0), .int .i64 (.ofNat 0), .nils, .nils, .int .u8 (.ofNat 0), .int .i64 (.ofNat 0), .int .i64 (.ofNat 0), .int .i64 (.ofNat 0), .str [], .nils, .int .i64 (.ofNat 0), .int .i64 (.ofNat 0), .bool false, .int .u8 (.ofNat 0), .int .i64 (.ofNat 0), .int .i64 (.ofNat 0), .int .i64 (.ofNat 0), .nils, .nils, .int .u8 (.ofNat 0), .int .i64 (.ofNat 0), .int .i64 (.ofNat 0), .int .i64 (.ofNat 0), .str [], .nils, .int .i64 (.ofNat 0), .int .i64 (.ofNat 0), .bool false, .int .u8 (.ofNat 0), .int .i64 (.ofNat 0), .int .i64 (.ofNat 0), .int .i64 (.ofNat 0), .nils, .nils, .int .u8 (.ofNat 0), .int .i64 (.ofNat 0), .int .i64 (.ofNat 0), .int .i64 (.ofNat 0), .str [], .nils, .int .i64 (.ofNat 0), .int .i64 (.ofNat 0), .bool false, .int .u8 (.ofNat 0), .int .i64 (.ofNat 0), .int .i64 (.ofNat 0), .int .i64 (.ofNat 0), .nils, .nils, .int .u8 (.ofNat 0), .int .i64 (.ofNat 0), .int .i64 (.ofNat 0), .int .i64 (.ofNat 0), .str [], .nils, .int .i64 (.ofNat 0), .int .i64 (.ofNat 0), .bool false, .int .u8 (.ofNat 0), .int .i64 (.ofNat 0), .int .i64 (.ofNat 0), .int .i64 (.ofNat 0), .nils, .nils, .int .i64 (.ofNat 0), .int .i64 (.ofNat 0), .bool true]),
  (1255, .cells false [.int .i64 (.ofNat 0)]),
  (1282, .cells false [.sl ⟨.d10, .d0, .d5⟩ 0 1 (.op 16), .sl ⟨.d11, .d0, .d5⟩ 0 1 (.op 1), .int .i64 (.ofNat 0), .bool false]),
  (1284, .cells false [.sl ⟨.d5, .d0, .d5⟩ 0 22 (.op 1), .int .i64 (.ofNat 22)]),
  (1285, .cells false [.int .u8 (.ofNat 14), .int .u8 (.ofNat 0), .int .u8 (.ofNat 0), .int .u8 (.ofNat 0), .int .u8 (.ofNat 150), .int .u8 (.ofNat 87), .int .u8 (.ofNat 85), .int .u8 (.ofNat 85), .int .u8 (.ofNat 4), .int .u8 (.ofNat 130), .int .u8 (.ofNat 128), .int .u8 (.ofNat 128), .int .u8 (.ofNat 128), .int .u8 (.ofNat 32), .int .u8 (.ofNat 0), .int .u8 (.ofNat 2), .int .u8 (.ofNat 162), .int .u8 (.ofNat 128), .int .u8 (.ofNat 128), .int .u8 (.ofNat 16), .int .u8 (.ofNat 24), .int .u8 (.ofNat 60)]),
  (1287, .cells false [.ptr ⟨.d2, .d0, .d5⟩ 0]),
  (1290, .cells false [.int .i64 (.ofNat 4294967297), .int .u8 (.ofNat 4), .int .i64 (.ofNat 0), .int .i64 (.ofNat 1), .int .i64 (.ofNat 16777233), .int .i64 (.ofNat 12), .str [], .nils, .int .i64 (.ofNat 0), .int .i64 (.ofNat 0), .int .i64 (.ofNat 0), .int .i64 (.ofNat 30), .int .i64 (.ofNat 0), .int .i64 (.ofNat 0), .nils, .nils]),
  (1291, .cells false [.int .i64 (.ofNat 22)]),
  (1396, .cells false [.int .u8 (.ofNat 1), .int .u8 (.ofNat 1), .int .u8 (.ofNat 0), .int .u8 (.ofNat 130), .int .u8 (.ofNat 128), .int .u8 (.ofNat 128), .int .u8 (.ofNat 128), .int .u8 (.ofNat 32), .int .u8 (.ofNat 0), .int .u8 (.ofNat 130), .int .u8 (.ofNat 128), .int .u8 (.ofNat 128), .int .u8 (.ofNat 128), .int .u8 (.ofNat 32), .int .u8 (.ofNat 60), .int .u8 (.ofNat 0), .int .u8 (.ofNat 0), .int .u8 (.ofNat 0), .int .u8 (.ofNat 0), .int .u8 (.ofNat 0), .int .u8 (.ofNat 0), .int .u8 (.ofNat 0), .int .u8 (.ofNat 0), .int .u8 (.ofNat 0), .int .u8 (.ofNat 0), .int .u8 (.ofNat 0), .int .u8 (.ofNat 0), .int .u8 (.ofNat 0), .int .u8 (.ofNat 0), .int .u8 (.ofNat 0)]),
  (1398, .cells false [.sl ⟨.d4, .d7, .d5⟩ 0 30 (.op 1)]),
  (1461, .cells false [.int .i64 (.ofNat 4294967297), .int .u8 (.ofNat 4), .int .i64 (.ofNat 0), .int .i64 (.ofNat 1), .int .i64 (.ofNat 16777233), .int .i64 (.ofNat 12), .str [], .nils, .int .i64 (.ofNat 0), .int .i64 (.ofNat 0), .int .i64 (.ofNat 0), .int .i64 (.ofNat 30), .int .i64 (.ofNat 0), .int .i64 (.ofNat 0), .nils, .nils]),
  (1747, .cells false [.int .u8 (.ofNat 3), .int .u8 (.ofNat 2), .int .u8 (.ofNat 0), .int .u8 (.ofNat 0), .int .u8 (.ofNat 4), .int .u8 (.ofNat 47), .int .u8 (.ofNat 97), .int .u8 (.ofNat 0), .int .u8 (.ofNat 0)]),
  (1749, .cells false [.sl ⟨.d3, .d13, .d6⟩ 0 9 (.op 1)])]
end
end Go.Proofs.Tryz
namespace Go.Proofs.Tryz
open Go Go.Ev Go.RowKit
noncomputable section
def nx4 : Nat := 2363
def tl4 : List (Nat × V) := [(0, .bool false),
  (1, .ptr ⟨.d7, .d11, .d0⟩ 0),
  (2, .int .i64 (.ofNat 4294967297))]
def hl4 : List (Nat × Blk) := [(2, .cells true firstL), (3, .cells true accL), (0, .cells true [.int .i64 (.ofNat 0), .int .i64 (.ofNat 23), .int .i64 (.ofNat 17), .int .i64 (.ofNat 11), .int .i64 (.ofNat 32), .int .i64 (.ofNat 260), .int .i64 (.ofNat 0), .int .i64 (.ofNat 128), .int .i64 (.ofNat 256), .int .i64 (.ofNat 64)]),
  (64, .map 7 [(.str [110, 111, 119], .ptr ⟨.d4, .d8, .d1⟩ 0), (.str [103, 97, 46, 48, 48, 48, 48, 48, 48, 48, 48, 48, 48], .ptr ⟨.d4, .d0, .d5⟩ 0)] [5, 6]),
  (65, .cells false [.int .i64 (.ofNat 4194304), .int .i64 (.ofNat 63), .mp ⟨.d0, .d4, .d0⟩]),
  (80, .cells false [.int .i64 (.ofNat 1), .int .u8 (.ofNat 1), .int .i64 (.ofNat 1), .int .i64 (.ofNat 0)]),
  (81, .cells false [.ptr ⟨.d1, .d4, .d0⟩ 0, .int .i64 (.ofNat 0), .int .i64 (.ofNat 1), .int .i64 (.ofNat 1), .int .i64 (.ofNat 1), .int .i64 (.ofNat 0), .ptr ⟨.d7, .d5, .d0⟩ 0, .nils, .int .i64 (.ofNat 0), .int .i64 (.ofNat 0), .int .i64 (.ofNat 0), .sl ⟨.d0, .d5, .d0⟩ 0 1 (.op 4)]),
  (87, .cells false [.ptr ⟨.d1, .d4, .d0⟩ 0, .str [103, 97], .sl ⟨.d7, .d0, .d5⟩ 0 1 (.op 1)]),
  (110, .map 2 [(.str [47], .ptr ⟨.d15, .d6, .d0⟩ 0), (.str [47, 97], .ptr ⟨.d14, .d11, .d7⟩ 0)] [0, 1]),
  (111, .cells false [.nils, .int .i64 (.ofNat 0), .int .i64 (.ofNat 0), .int .i64 (.ofNat 4294967298), .int .i64 (.ofNat 0), .int .i64 (.ofNat 0), .int .i64 (.ofNat 0), .int .i64 (.ofNat 1), .int .i64 (.ofNat 0), .int .i64 (.ofNat 0), .int .i64 (.ofNat 0)]),
  (112, .map 1 [(.int .i64 (.ofNat 4294967297), .agg [.int .i64 (.ofNat 4294967297), .int .i64 (.ofNat 30), .int .i64 (.ofNat 1)])] [0]),
  (113, .cells false [.mp ⟨.d14, .d6, .d0⟩, .mp ⟨.d0, .d7, .d0⟩]),
  (114, .map 0 [] []),
  (115, .map 1 [(.int .i64 (.ofNat 4294967297), .int .i64 (.ofNat 9))] [0]),
  (116, .map 0 [] []),
  (117, .cells false [.int .i64 (.ofNat 1), .int .i64 (.ofNat 1), .ptr ⟨.d1, .d5, .d0⟩ 0, .mp ⟨.d2, .d7, .d0⟩, .int .i64 (.ofNat 1048576), .int .i64 (.ofNat 12), .int .i64 (.ofNat 2), .int .u8 (.ofNat 3), .int .i64 (.ofNat 1), .int .i64 (.ofNat 0), .int .i64 (.ofNat 0), .ptr ⟨.d6, .d8, .d0⟩ 0, .ptr ⟨.d14, .d15, .d0⟩ 0, .nilp, .mp ⟨.d2, .d15, .d0⟩, .bool true, .bool true, .bool true, .ptr ⟨.d11, .d11, .d1⟩ 0, .mp ⟨.d3, .d15, .d0⟩, .ptr ⟨.d1, .d7, .d0⟩ 0, .int .i64 (.ofNat 4294967298), .int .i64 (.ofNat 0), .sl ⟨.d9, .d7, .d0⟩ 0 1 (.op 4), .nilp, .int .i64 (.ofNat 2), .nils, .nils, .mp ⟨.d3, .d7, .d0⟩, .int .i64 (.ofNat 1), .int .i64 (.ofNat 1), .bool false, .nils, .mp ⟨.d4, .d7, .d0⟩, .int .i64 (.ofNat 0), .bool false]),
  (121, .cells false [.int .i64 (.ofNat 1), .int .u8 (.ofNat 1), .int .i64 (.ofNat 1), .int .i64 (.ofNat 0)]),
  (134, .cells false [.int .i64 (.ofNat 1), .int .i64 (.ofNat 1), .int .i64 (.ofNat 0), .int .i64 (.ofNat 0), .sl ⟨.d15, .d9, .d0⟩ 0 1 (.op 2), .int .i64 (.ofNat 2), .int .i64 (.ofNat 1), .int .i64 (.ofNat 0), .int .i64 (.ofNat 0), .mp ⟨.d3, .d10, .d0⟩, .int .i64 (.ofNat 2)]),
  (159, .cells false [.int .i64 (.ofNat 0), .sl ⟨.d1, .d10, .d0⟩ 0 1 (.op 4)]),
  (161, .cells false [.int .i64 (.ofNat 1), .int .u8 (.ofNat 1), .int .i64 (.ofNat 1), .int .i64 (.ofNat 0)]),
  (163, .map 0 [] []),
  (171, .map 1 [(.int .i64 (.ofNat 1), .ptr ⟨.d14, .d4, .d4⟩ 0)] [0]),
  (182, .cells false [.int .i64 (.ofNat 1), .int .i64 (.ofNat 1), .ptr ⟨.d5, .d7, .d0⟩ 0, .int .i64 (.ofNat 12), .mp ⟨.d11, .d10, .d0⟩, .int .i64 (.ofNat 1048577), .int .i64 (.ofNat 1), .int .i64 (.ofNat 1), .ptr ⟨.d0, .d14, .d1⟩ 0, .int .i64 (.ofNat 4294967298), .ptr ⟨.d6, .d14, .d1⟩ 0, .ptr ⟨.d8, .d14, .d1⟩ 0, .nils, .nils]),
  (183, .cells false [.ptr ⟨.d6, .d11, .d0⟩ 0, .sl ⟨.d11, .d11, .d0⟩ 0 1 (.op 1), .sl ⟨.d8, .d4, .d8⟩ 0 2 (.op 16), .bool false]),
  (184, .cells false [.int .i64 (.ofNat 5), .int .i64 (.ofNat 1048577), .sl ⟨.d5, .d13, .d6⟩ 1 0 (.op 1), .int .i64 (.ofNat 2), .int .i64 (.ofNat 2)]),
  (185, .cells false [.int .i64 (.ofNat 1), .ptr ⟨.d8, .d11, .d0⟩ 0, .sl ⟨.d7, .d4, .d8⟩ 0 1 (.op 1), .bool false]),
  (187, .cells false [.ptr ⟨.d9, .d11, .d0⟩ 0]),
  (242, .map 0 [] []),
  (243, .map 0 [] []),
  (254, .cells false [.int .i64 (.ofNat 1), .int .i64 (.ofNat 0), .int .i64 (.ofNat 0), .sl ⟨.d7, .d0, .d1⟩ 0 1 (.op 2), .int .u8 (.ofNat 4), .int .i64 (.ofNat 1), .bool false, .int .i64 (.ofNat 0), .bool false, .bool false, .int .i64 (.negSucc 0), .bool true, .int .i64 (.ofNat 0), .bool true, .bool true, .int .i64 (.ofNat 4294967298), .bool false, .int .i64 (.ofNat 0), .bool false, .bool false, .int .i64 (.negSucc 0), .bool false, .int .i64 (.ofNat 0), .bool false, .bool false, .int .i64 (.negSucc 0), .bool false, .int .i64 (.ofNat 0), .bool false, .bool false, .int .i64 (.negSucc 0), .bool false, .int .i64 (.ofNat 0), .bool false, .bool false, .int .i64 (.negSucc 0), .bool false, .int .i64 (.ofNat 0), .bool false, .bool false, .int .i64 (.negSucc 0), .bool false, .int .i64 (.ofNat 0), .bool false, .bool false, .int .i64 (.negSucc 0), .int .i64 (.ofNat 2), .int .i64 (.ofNat 4294967298)]),
  (261, .cells false [.int .i64 (.ofNat 1), .int .u8 (.ofNat 1), .int .i64 (.ofNat 1), .int .i64 (.ofNat 0)]),
  (263, .cells false [.int .i64 (.ofNat 0), .sl ⟨.d5, .d0, .d1⟩ 0 1 (.op 4)]),
  (388, .cells false [.sl ⟨.d5, .d8, .d1⟩ 0 13 (.op 1), .int .i64 (.ofNat 13)]),
  (389, .cells false [.int .u8 (.ofNat 5), .int .u8 (.ofNat 0), .int .u8 (.ofNat 0), .int .u8 (.ofNat 0), .int .u8 (.ofNat 122), .int .u8 (.ofNat 137), .int .u8 (.ofNat 153), .int .u8 (.ofNat 93), .int .u8 (.ofNat 0), .int .u8 (.ofNat 2), .int .u8 (.ofNat 2), .int .u8 (.ofNat 2), .int .u8 (.ofNat 0)]),
  (426, .map 2 [(.str [47], .ptr ⟨.d15, .d10, .d1⟩ 0), (.str [47, 97], .ptr ⟨.d0, .d6, .d7⟩ 0)] [0, 1]),
  (429, .cells false [.mp ⟨.d10, .d10, .d1⟩, .mp ⟨.d1, .d11, .d1⟩]),
  (431, .cells false [.nils, .int .i64 (.ofNat 0), .int .i64 (.ofNat 0), .int .i64 (.ofNat 4294967298), .int .i64 (.ofNat 0), .int .i64 (.ofNat 0), .int .i64 (.ofNat 0), .int .i64 (.ofNat 1), .int .i64 (.ofNat 0), .int .i64 (.ofNat 0), .int .i64 (.ofNat 0)]),
  (433, .map 1 [(.int .i64 (.ofNat 4294967297), .agg [.int .i64 (.ofNat 4294967297), .int .i64 (.ofNat 30), .int .i64 (.ofNat 1)])] [0]),
  (441, .cells false [.int .i64 (.ofNat 1), .int .u8 (.ofNat 1), .int .i64 (.ofNat 1), .int .i64 (.ofNat 0)]),
  (442, .map 1 [(.int .i64 (.ofNat 4294967297), .agg [.int .i64 (.ofNat 1), .int .i64 (.ofNat 1)])] [0]),
  (443, .cells false [.ptr ⟨.d13, .d10, .d1⟩ 0, .int .i64 (.ofNat 0), .sl ⟨.d9, .d11, .d1⟩ 0 1 (.op 4), .bool false, .mp ⟨.d10, .d11, .d1⟩, .int .i64 (.ofNat 4294967298), .int .i64 (.ofNat 12), .sl ⟨.d3, .d6, .d7⟩ 0 0 (.op 1)]),
  (477, .map 2 [(.str [47], .ptr ⟨.d2, .d14, .d1⟩ 0), (.str [47, 97], .ptr ⟨.d1, .d13, .d7⟩ 0)] [0, 1]),
  (480, .cells false [.mp ⟨.d13, .d13, .d1⟩, .mp ⟨.d4, .d14, .d1⟩]),
  (482, .cells false [.nils, .int .i64 (.ofNat 0), .int .i64 (.ofNat 0), .int .i64 (.ofNat 4294967298), .int .i64 (.ofNat 0), .int .i64 (.ofNat 0), .int .i64 (.ofNat 0), .int .i64 (.ofNat 1), .int .i64 (.ofNat 0), .int .i64 (.ofNat 0), .int .i64 (.ofNat 0)]),
  (484, .map 1 [(.int .i64 (.ofNat 4294967297), .agg [.int .i64 (.ofNat 4294967297), .int .i64 (.ofNat 30), .int .i64 (.ofNat 1)])] [0]),
  (485, .map 0 [] []),
  (486, .cells false [.mp ⟨.d5, .d14, .d1⟩]),
  (487, .map 1 [(.int .i64 (.ofNat 4294967297), .agg [.int .i64 (.ofNat 30), .int .i64 (.ofNat 44)])] [0]),
  (488, .cells false [.int .i64 (.ofNat 12), .mp ⟨.d7, .d14, .d1⟩]),
  (1101, .cells false [.int .i64 (.ofNat 1048577), .int .i64 (.ofNat 5), .int .i64 (.ofNat 2), .int .i64 (.ofNat 2), .sl ⟨.d9, .d0, .d8⟩ 1 0 (.op 1)]),
  (1102, .cells false [.int .i64 (.ofNat 1), .ptr ⟨.d13, .d4, .d4⟩ 0, .int .i64 (.ofNat 1), .int .i64 (.ofNat 4294967297), .int .i64 (.ofNat 1), .int .i64 (.ofNat 0), .int .u8 (.ofNat 0), .int .i64 (.ofNat 0), .int .i64 (.ofNat 0), .int .i64 (.ofNat 0), .str [], .nils, .int .i64 (.ofNat 0), .int .i64 (.ofNat 0), .bool false, .int .u8 (.ofNat 0), .int .i64 (.ofNat 0), .int .i64 (.ofNat 0), .int .i64 (.ofNat 0), .nils, .nils, .int .i64 (.ofNat 0), .bool true, .ptr ⟨.d15, .d4, .d4⟩ 0, .int .i64 (.ofNat 12), .bool false]),
  (1103, .cells false [.int .u8 (.ofNat 3), .int .i64 (.ofNat 1), .int .i64 (.ofNat 4294967297), .int .i64 (.ofNat 1), .str [47, 97], .sl ⟨.d9, .d1, .d7⟩ 0 0 (.ex 0), .int .i64 (.ofNat 0), .int .i64 (.ofNat 0), .bool false, .int .u8 (.ofNat 0), .int .i64 (.ofNat 0), .int .i64 (.ofNat 0), .int .i64 (.ofNat 0), .nils, .nils, .int .u8 (.ofNat 0), .int .i64 (.ofNat 0), .int .i64 (.ofNat 0), .int .i64 (.ofNat 0), .str [], .nils, .int .i64 (.ofNat 0), .int .i64 (.ofNat 0), .bool false, .int .u8 (.ofNat 0), .int .i64 (.ofNat 0), .int .i64 (.ofNat 0), .int .i64 (.ofNat 0), .nils, .nils, .int .u8 (.ofNat 0), .int .i64 (.ofNat 0), .int .i64 (.ofNat 0), .int .i64 (.ofNat 0), .str [], .nils, .int .i64 (.ofNat 0), .int .i64 (.ofNat 0), .bool false, .int .u8 (.ofNat 0), .int .i64 (.ofNat 0), .int .i64 (.ofNat 0), .int .i64 (.ofNat 0), .nils, .nils, .int .u8 (.ofNat 0), .int .i64 (.ofNat 0), .int .i64 (.ofNat 0), .int .i64 (.ofNat 0), .str [], .nils, .int .i64 (.ofNat 0), .int .i64 (.ofNat 0), .bool false, .int .u8 (.ofNat 0), .int .i64 (.ofNat 0), .int .i64 (.ofNat 0), .int .i64 (.ofNat 0), .nils, .nils, .int .u8 (.ofNat 0), .int .i64 (.ofNat 0), .int .i64 (.ofNat 0), .int .i64 (.ofNat 0), .str [], .nils, .int .i64 (.ofNat 0), .int .i64 (.ofNat 0), .bool false, .int .u8 (.ofNat 0), .int .i64 (.ofNat 0), .int .i64 (.ofNat 0), .int .i64 (.ofNat 0), .nils, .nils, .int .u8 (.ofNat 0), .int .i64 (.ofNat 0), .int .i64 (.ofNat 0), .int .i64 (.ofNat 0), .str [], .nils, .int .i64 (.ofNat 0), .int .i64 (.ofNat 0), .bool false, .int .u8 (.ofNat 0), .int .i64 (.ofNat 0), .int .i64 (.ofNat 0), .int .i64 (.ofNat 0), .nils, .nils, .int .u8 (.ofNat 0), .int .i64 (.ofNat 0), .int .i64 (.ofNat 0), .int .i64 (.ofNat 0), .str [], .nils, .int .i64 (.ofNat 0), .int .i64 (.ofNat 0), .bool false, .int .u8 (.ofNat 0), .int .i64 (.ofNat 0), .int .i64 (.ofNat 0), .int .i64 (.ofNat 0), .nils, .nils, .int .u8 (.ofNat 0), .int .i64 (.ofNat 0), .int .i64 (.ofNat 0), .int .i64 (.ofNat 0), .str [], .nils, .int .i64 (.ofNat 0), .int .i64 (.ofNat 0), .bool false, .int .u8 (.ofNat 0), .int .i64 (.ofNat 0), .int .i64 (.ofNat 0), .int .i64 (.ofNat 0), .nils, .nils, .int .i64 (.ofNat 1), .int .i64 (.ofNat 0), .bool true]),
  (1282, .cells false [.sl ⟨.d4, .d8, .d7⟩ 0 2 (.op 16), .sl ⟨.d5, .d8, .d7⟩ 0 2 (.op 1), .int .i64 (.ofNat 0), .bool false]),
  (1284, .cells false [.sl ⟨.d1, .d8, .d7⟩ 0 50 (.op 1), .int .i64 (.ofNat 50)]),
  (1287, .cells false [.ptr ⟨.d2, .d0, .d5⟩ 0]),
  (1747, .cells false [.int .u8 (.ofNat 3), .int .u8 (.ofNat 2), .int .u8 (.ofNat 0), .int .u8 (.ofNat 0), .int .u8 (.ofNat 4), .int .u8 (.ofNat 47), .int .u8 (.ofNat 97), .int .u8 (.ofNat 0), .int .u8 (.ofNat 0)]),
  (1749, .cells false [.sl ⟨.d3, .d13, .d6⟩ 0 9 (.op 1)]),
  (1817, .cells false []),
  (1887, .cells false []),
  (1888, .cells false [.sl ⟨.d15, .d5, .d7⟩ 0 0 (.ex 0), .int .i64 (.ofNat 4294967298), .int .i64 (.ofNat 4294967298), .int .i64 (.ofNat 4294967298), .int .i64 (.ofNat 12), .int .i64 (.ofNat 12), .int .i64 (.ofNat 0), .int .i64 (.ofNat 0), .int .i64 (.ofNat 0), .int .i64 (.ofNat 0), .int .i64 (.ofNat 0)]),
  (1891, .cells false [.int .i64 (.ofNat 0)]),
  (1916, .cells false []),
  (1921, .cells false [.int .u8 (.ofNat 14), .int .u8 (.ofNat 0), .int .u8 (.ofNat 0), .int .u8 (.ofNat 0), .int .u8 (.ofNat 150), .int .u8 (.ofNat 87), .int .u8 (.ofNat 85), .int .u8 (.ofNat 85), .int .u8 (.ofNat 4), .int .u8 (.ofNat 130), .int .u8 (.ofNat 128), .int .u8 (.ofNat 128), .int .u8 (.ofNat 128), .int .u8 (.ofNat 32), .int .u8 (.ofNat 0), .int .u8 (.ofNat 2), .int .u8 (.ofNat 162), .int .u8 (.ofNat 128), .int .u8 (.ofNat 128), .int .u8 (.ofNat 16), .int .u8 (.ofNat 24), .int .u8 (.ofNat 60), .int .u8 (.ofNat 20), .int .u8 (.ofNat 0), .int .u8 (.ofNat 0), .int .u8 (.ofNat 0), .int .u8 (.ofNat 86), .int .u8 (.ofNat 42), .int .u8 (.ofNat 110), .int .u8 (.ofNat 206), .int .u8 (.ofNat 1), .int .u8 (.ofNat 132), .int .u8 (.ofNat 128), .int .u8 (.ofNat 128), .int .u8 (.ofNat 128), .int .u8 (.ofNat 32), .int .u8 (.ofNat 130), .int .u8 (.ofNat 128), .int .u8 (.ofNat 128), .int .u8 (.ofNat 128), .int .u8 (.ofNat 32), .int .u8 (.ofNat 2), .int .u8 (.ofNat 2), .int .u8 (.ofNat 24), .int .u8 (.ofNat 4), .int .u8 (.ofNat 47), .int .u8 (.ofNat 97), .int .u8 (.ofNat 0), .int .u8 (.ofNat 0), .int .u8 (.ofNat 2)]),
  (1924, .cells false [.int .i64 (.ofNat 4294967297), .int .u8 (.ofNat 4), .int .i64 (.ofNat 0), .int .i64 (.ofNat 1), .int .i64 (.ofNat 16777233), .int .i64 (.ofNat 12), .str [], .nils, .int .i64 (.ofNat 0), .int .i64 (.ofNat 0), .int .i64 (.ofNat 0), .int .i64 (.ofNat 30), .int .i64 (.ofNat 0), .int .i64 (.ofNat 0), .nils, .nils, .int .i64 (.ofNat 4294967298), .int .u8 (.ofNat 1), .int .i64 (.ofNat 4294967297), .int .i64 (.ofNat 1), .int .i64 (.ofNat 1), .int .i64 (.ofNat 12), .str [47, 97], .sl ⟨.d12, .d7, .d7⟩ 0 0 (.ex 0), .int .i64 (.ofNat 0), .int .i64 (.ofNat 0), .int .i64 (.ofNat 1), .int .i64 (.ofNat 0), .int .i64 (.ofNat 0), .int .i64 (.ofNat 0), .nils, .nils]),
  (1925, .cells false [.int .i64 (.ofNat 22), .int .i64 (.ofNat 50)]),
  (1971, .cells false []),
  (1981, .cells false []),
  (1982, .cells false [.sl ⟨.d13, .d11, .d7⟩ 0 0 (.ex 0), .int .i64 (.ofNat 4294967298), .int .i64 (.ofNat 4294967298), .int .i64 (.ofNat 4294967298), .int .i64 (.ofNat 12), .int .i64 (.ofNat 12), .int .i64 (.ofNat 0), .int .i64 (.ofNat 0), .int .i64 (.ofNat 0), .int .i64 (.ofNat 0), .int .i64 (.ofNat 0)]),
  (2000, .cells false []),
  (2001, .cells false [.sl ⟨.d0, .d13, .d7⟩ 0 0 (.ex 0), .int .i64 (.ofNat 4294967298), .int .i64 (.ofNat 4294967298), .int .i64 (.ofNat 4294967298), .int .i64 (.ofNat 12), .int .i64 (.ofNat 12), .int .i64 (.ofNat 0), .int .i64 (.ofNat 0), .int .i64 (.ofNat 0), .int .i64 (.ofNat 0), .int .i64 (.ofNat 0)]),
  (2055, .cells false [.int .u8 (.ofNat 1), .int .u8 (.ofNat 3), .int .u8 (.ofNat 2), .int .u8 (.ofNat 132), .int .u8 (.ofNat 128), .int .u8 (.ofNat 128), .int .u8 (.ofNat 128), .int .u8 (.ofNat 32), .int .u8 (.ofNat 0), .int .u8 (.ofNat 0), .int .u8 (.ofNat 0), .int .u8 (.ofNat 4), .int .u8 (.ofNat 47), .int .u8 (.ofNat 97), .int .u8 (.ofNat 0), .int .u8 (.ofNat 132), .int .u8 (.ofNat 128), .int .u8 (.ofNat 128), .int .u8 (.ofNat 128), .int .u8 (.ofNat 32), .int .u8 (.ofNat 132), .int .u8 (.ofNat 128), .int .u8 (.ofNat 128), .int .u8 (.ofNat 128), .int .u8 (.ofNat 32), .int .u8 (.ofNat 132), .int .u8 (.ofNat 128), .int .u8 (.ofNat 128), .int .u8 (.ofNat 128), .int .u8 (.ofNat 32), .int .u8 (.ofNat 24), .int .u8 (.ofNat 24), .int .u8 (.ofNat 0), .int .u8 (.ofNat 0), .int .u8 (.ofNat 0), .int .u8 (.ofNat 0), .int .u8 (.ofNat 0), .int .u8 (.ofNat 0), .int .u8 (.ofNat 0), .int .u8 (.ofNat 0)]),
  (2057, .cells false [.sl ⟨.d7, .d0, .d8⟩ 0 40 (.op 1)]),
  (2117, .cells false [.int .u8 (.ofNat 1), .int .u8 (.ofNat 3), .int .u8 (.ofNat 2), .int .u8 (.ofNat 132), .int .u8 (.ofNat 128), .int .u8 (.ofNat 128), .int .u8 (.ofNat 128), .int .u8 (.ofNat 32), .int .u8 (.ofNat 0), .int .u8 (.ofNat 0), .int .u8 (.ofNat 0), .int .u8 (.ofNat 4), .int .u8 (.ofNat 47), .int .u8 (.ofNat 97), .int .u8 (.ofNat 0), .int .u8 (.ofNat 132), .int .u8 (.ofNat 128), .int .u8 (.ofNat 128), .int .u8 (.ofNat 128), .int .u8 (.ofNat 32), .int .u8 (.ofNat 132), .int .u8 (.ofNat 128), .int .u8 (.ofNat 128), .int .u8 (.ofNat 128), .int .u8 (.ofNat 32), .int .u8 (.ofNat 132), .int .u8 (.ofNat 128), .int .u8 (.ofNat 128), .int .u8 (.ofNat 128), .int .u8 (.ofNat 32), .int .u8 (.ofNat 24), .int .u8 (.ofNat 24), .int .u8 (.ofNat 0), .int .u8 (.ofNat 0), .int .u8 (.ofNat 0), .int .u8 (.ofNat 0), .int .u8 (.ofNat 0), .int .u8 (.ofNat 0), .int .u8 (.ofNat 0), .int .u8 (.ofNat 0)]),
  (2119, .cells false [.sl ⟨.d5, .d4, .d8⟩ 0 40 (.op 1)]),
  (2120, .cells false [.int .i64 (.ofNat 4294967297), .int .u8 (.ofNat 4), .int .i64 (.ofNat 0), .int .i64 (.ofNat 1), .int .i64 (.ofNat 16777233), .int .i64 (.ofNat 12), .str [], .nils, .int .i64 (.ofNat 0), .int .i64 (.ofNat 0), .int .i64 (.ofNat 0), .int .i64 (.ofNat 30), .int .i64 (.ofNat 0), .int .i64 (.ofNat 0), .nils, .nils, .int .i64 (.ofNat 4294967298), .int .u8 (.ofNat 1), .int .i64 (.ofNat 4294967297), .int .i64 (.ofNat 1), .int .i64 (.ofNat 1), .int .i64 (.ofNat 12), .str [47, 97], .sl ⟨.d3, .d11, .d7⟩ 0 0 (.ex 0), .int .i64 (.ofNat 0), .int .i64 (.ofNat 0), .int .i64 (.ofNat 1), .int .i64 (.ofNat 0), .int .i64 (.ofNat 0), .int .i64 (.ofNat 0), .nils, .nils])]
end
end Go.Proofs.Tryz
