/-
  The evaluator: slices, append, copy, clear, conversions, new blocks, maps looked up.
-/
import Derived.Test.YtljfidiaocakjaaGreatDoorEvA
import Derived.Laws.Append
import Derived.Laws.AppendOwn
import Derived.Laws.BytesString
import Derived.Laws.BytesArg
set_option linter.unusedVariables false
set_option linter.unusedSimpArgs false
namespace Go.Ev
noncomputable section

def lnK {α : Type} (l : List α) : Nat → (Nat → Bool) → Bool := List.rec (motive := fun _ => Nat → (Nat → Bool) → Bool) (fun n K => K n) (fun _ _ ih n K => fN (Nat.add n 1) fun n => ih n K) l
theorem lnK_inv {α : Type} : ∀ {l : List α} {n : Nat} {K : Nat → Bool}, lnK l n K = true → K (n + l.length) = true
  | [], n, K, h => h
  | a :: l, n, K, h => by
    have h : fN (Nat.add n 1) (fun n => lnK l n K) = true := h
    rw [fN_eq] at h
    have := lnK_inv h
    have e : n + (a :: l).length = Nat.add n 1 + l.length := by simp; omega
    rw [e]; exact this
def onSlish (v : V) (f : BId → Nat → Nat → Cap → Bool) (n e : Bool) : Bool := V.rec (motive_1 := fun _ => Bool) (motive_2 := fun _ => Bool) (fun _ _ => false) (fun _ => false) (fun _ => false) (fun _ _ => false) false f n e (fun _ => false) false (fun _ _ _ _ _ => false) false (fun _ _ _ => false) false (fun _ _ => false) (fun _ _ => false) false (fun _ _ _ _ => false) v
theorem onSlish_inv {v : V} {f : BId → Nat → Nat → Cap → Bool} {n e : Bool} (h : onSlish v f n e = true) :
    (∃ b off len cap, v = .sl b off len cap ∧ f b off len cap = true) ∨ (v = .nils ∧ n = true) ∨ (v = .emp ∧ e = true) := by
  cases v <;> first | exact .inl ⟨_, _, _, _, rfl, h⟩ | exact .inr (.inl ⟨rfl, h⟩) | exact .inr (.inr ⟨rfl, h⟩) | cases h
def aggOr (v : V) (f : List V → Bool) (g : Bool) : Bool := V.rec (motive_1 := fun _ => Bool) (motive_2 := fun _ => Bool) (fun _ _ => g) (fun _ => g) (fun _ => g) (fun _ _ => g) g (fun _ _ _ _ => g) g g (fun _ => g) g (fun _ _ _ _ _ => g) g (fun _ _ _ => g) g (fun l _ => f l) (fun _ _ => false) false (fun _ _ _ _ => false) v
theorem aggOr_inv {v : V} {f : List V → Bool} {g : Bool} (h : aggOr v f g = true) : noTup v ∧ ((∃ l, v = .agg l ∧ f l = true) ∨ ((∀ l, v ≠ .agg l) ∧ cellsV v = [v] ∧ g = true)) := by
  cases v <;> first | exact ⟨trivial, .inl ⟨_, rfl, h⟩⟩ | exact ⟨trivial, .inr ⟨fun l e => by (cases e), rfl, h⟩⟩ | cases h
def cellsC (v : V) (K : List V → Bool) : Bool := aggOr v K (K [v])
theorem cellsC_inv {v : V} {K : List V → Bool} (h : cellsC v K = true) : noTup v ∧ K (cellsV v) = true := by
  obtain ⟨a, ⟨l, rfl, h⟩ | ⟨_, e, h⟩⟩ := aggOr_inv h
  · exact ⟨a, h⟩
  · exact ⟨a, by rw [e]; exact h⟩

/-- an operand that may be left out -/
inductive ORel (m : M) : Option V → Option Value → Prop
  | none : ORel m none none
  | some (v v') (h : VRel m v v') : ORel m (some v) (some v')

-- bounds
def bndK (v : V) (y : Nat) (K : Nat → Bool) : Bool := onNatV v fun n => grd (Nat.ble n y) (K n)
def bndO (v : Option V) (d y : Nat) (K : Nat → Bool) : Bool := Option.rec (motive := fun _ => Bool) (K d) (fun v => bndK v y K) v
/-- a high bound, which has to be there where the last one is -/
def bndH (mx hi : Option V) (d y : Nat) (K : Nat → Bool) : Bool := Option.rec (motive := fun _ => Bool) (bndO hi d y K) (fun _ => Option.rec (motive := fun _ => Bool) false (fun v => bndK v y K) hi) mx
theorem bndK_inv {m : M} {v : V} {v' : Value} {y : Nat} {K : Nat → Bool} (r : VRel m v v') (h : bndK v y K = true) : ∃ k n, v' = .int k (.ofNat n) ∧ n ≤ y ∧ K n = true := by
  obtain ⟨k, n, rfl, h1⟩ := onNatV_inv h
  obtain ⟨h2, h3⟩ := grd_inv h1
  cases r
  exact ⟨k, n, rfl, Nat.le_of_ble_eq_true h2, h3⟩
theorem bndO_inv {m : M} {v : Option V} {v' : Option Value} {d y : Nat} {K : Nat → Bool} (r : ORel m v v') (h : bndO v d y K = true) :
    ∃ n, ((v' = none ∧ n = d) ∨ ∃ k, v' = some (.int k (.ofNat n)) ∧ n ≤ y) ∧ K n = true := by
  cases r with
  | none => exact ⟨d, .inl ⟨rfl, rfl⟩, h⟩
  | some v v' r =>
    obtain ⟨k, n, rfl, h1, h2⟩ := bndK_inv r h
    exact ⟨n, .inr ⟨k, rfl, h1⟩, h2⟩
theorem bndH_inv {m : M} {mx v : Option V} {mx' v' : Option Value} {d y : Nat} {K : Nat → Bool} (rm : ORel m mx mx') (r : ORel m v v') (h : bndH mx v d y K = true) :
    ∃ n, ((mx' = none ∧ v' = none ∧ n = d) ∨ ∃ k, v' = some (.int k (.ofNat n)) ∧ n ≤ y) ∧ K n = true := by
  cases rm with
  | none =>
    obtain ⟨n, h1 | h1, h2⟩ := bndO_inv r (h : bndO v d y K = true)
    · exact ⟨n, .inl ⟨rfl, h1⟩, h2⟩
    · exact ⟨n, .inr h1, h2⟩
  | some mv mv' rm =>
    cases r with
    | none => exact absurd h (by intro e; cases e)
    | some v v' r =>
      obtain ⟨k, n, rfl, h1, h2⟩ := bndK_inv r h
      exact ⟨n, .inr ⟨k, rfl, h1⟩, h2⟩
theorem bounds_run {P : Program} {w : World} (isSlice : Bool) (len cap : Nat) {lo hi mx : Option Value} {l h m : Nat}
    (hm : (mx = none ∧ m = cap) ∨ ∃ k, mx = some (.int k (.ofNat m)) ∧ m ≤ cap)
    (hh : (mx = none ∧ hi = none ∧ h = len) ∨ ∃ k, hi = some (.int k (.ofNat h)) ∧ h ≤ m)
    (hl : (lo = none ∧ l = 0) ∨ ∃ k, lo = some (.int k (.ofNat l)) ∧ l ≤ h) :
    (Instr.sliceBounds isSlice len cap lo hi mx).run P w = .ok (l, h, m) w := by
  have sb : ∀ (k : IntKind) (n y : Nat) (code : BoundsCode), n ≤ y → (Instr.sliceBound (.int k (.ofNat n)) y code).run P w = .ok n w := fun k n y code hn =>
    run_sliceBound (P := P) (w := w) k (.ofNat n) y code (Int.natCast_nonneg n) (by show (n : Int) ≤ y; omega)
  unfold Instr.sliceBounds
  rcases hm with ⟨rfl, rfl⟩ | ⟨km, rfl, hm⟩ <;> rcases hh with ⟨e, rfl, rfl⟩ | ⟨kh, rfl, hh⟩ <;> rcases hl with ⟨rfl, rfl⟩ | ⟨kl, rfl, hl⟩ <;>
    first
    | (cases e; done)
    | (simp_all [sb]; done)
    | simp_all

-- slices
def mkSl (b : BId) (off es lo hi m : Nat) (K : V → Bool) : Bool := fN (Nat.sub hi lo) fun n => fN (Nat.sub m lo) fun c =>
  alt (Nat.beq m lo) (K (.sl b off n (.ex c))) (fN (Nat.add off (Nat.mul lo es)) fun o => K (.sl b o n (.ex c)))
def slEx (es : Nat) (b : BId) (off len : Nat) (lo hi mx : Option V) (K : V → Bool) (c : Nat) : Bool := bndO mx c c fun m => bndH mx hi len m fun hi => bndO lo 0 hi fun lo => mkSl b off es lo hi m K
def slOpN (es : Nat) (b : BId) (off len : Nat) (lo hi : Option V) (K : V → Bool) : Bool := bndO hi len len fun hi => bndO lo 0 hi fun lo => fN (Nat.sub hi lo) fun n => fN (Nat.add off (Nat.mul lo es)) fun o => K (.sl b o n (.op es))
def slOpM (es : Nat) (b : BId) (off len : Nat) (lo hi mx : Option V) (K : V → Bool) : Bool := bndO mx 0 len fun m => bndH mx hi len m fun hi => bndO lo 0 hi fun lo => alt (Nat.beq len 0) (K .emp) (mkSl b off es lo hi m K)
def slOp (es : Nat) (b : BId) (off len : Nat) (lo hi mx : Option V) (K : V → Bool) (es' : Nat) : Bool := Option.rec (motive := fun _ => Bool) (grd (Nat.beq es es') (slOpN es b off len lo hi K)) (fun _ => slOpM es b off len lo hi mx K) mx
def slNo (lo hi mx : Option V) (x : Bool) : Bool := bndO mx 0 0 fun _ => bndH mx hi 0 0 fun _ => bndO lo 0 0 fun _ => x
def slCap (es : Nat) (lo hi mx : Option V) (K : V → Bool) (b : BId) (off len : Nat) (cap : Cap) : Bool := Cap.rec (motive := fun _ => Bool) (slEx es b off len lo hi mx K) (slOp es b off len lo hi mx K) cap
def sliceSl (es : Nat) (x : V) (lo hi mx : Option V) (K : V → Bool) : Bool := onSlish x (slCap es lo hi mx K) (slNo lo hi mx (K .nils)) (slNo lo hi mx (K .emp))
def sliceAr (es : Nat) (x : V) (lo hi mx : Option V) (K : V → Bool) (len : Nat) : Bool := onPtr x fun b off => slEx es b off len lo hi mx K len
theorem mkSl_inv {m : M} {b : BId} {off es lo hi mm : Nat} {a : Addr} {K : V → Bool} (r : PRel m b off a) (h1 : lo ≤ hi) (h2 : hi ≤ mm) (h : mkSl b off es lo hi mm K = true) :
    ∃ v, VRel m v (.slice (some (if mm = lo then a else a.add (lo * es))) (hi - lo) (mm - lo)) ∧ K v = true := by
  unfold mkSl at h
  simp only [fN_eq] at h
  rcases alt_inv h with ⟨e, h⟩ | ⟨e, h⟩
  · have e : mm = lo := Nat.eq_of_beq_eq_true e
    refine ⟨_, ?_, h⟩
    rw [if_pos e]
    exact .sl _ _ _ _ _ _ r (by show hi - lo ≤ mm - lo; omega) rfl
  · have e : mm ≠ lo := fun x => by subst x; simp at e
    refine ⟨_, ?_, h⟩
    rw [if_neg e]
    exact .sl _ _ _ _ _ _ r.add (by show hi - lo ≤ mm - lo; omega) rfl
/-- what the model's piece of a slice is, its bounds being known -/
theorem slice_run {P : Program} {w : World} {t e : TypeId} {a : Option Addr} {len cap es : Nat} (hu : P.underlying t = some (.slice e)) (hs : szT P e = some es) {lo hi mx : Option Value} {l h m : Nat}
    (hm : (mx = none ∧ m = cap) ∨ ∃ k, mx = some (.int k (.ofNat m)) ∧ m ≤ cap)
    (hh : (mx = none ∧ hi = none ∧ h = len) ∨ ∃ k, hi = some (.int k (.ofNat h)) ∧ h ≤ m)
    (hl : (lo = none ∧ l = 0) ∨ ∃ k, lo = some (.int k (.ofNat l)) ∧ l ≤ h) :
    (Instr.sliceAt t (.slice a len cap) lo hi mx).run P w = .ok (.slice (if m = l then a else a.map (·.add (l * es))) (h - l) (m - l)) w := by
  simp [Instr.sliceAt, Instr.slice, run_underlying hu, bounds_run true len cap hm hh hl, szT_run hs]
theorem array_run {P : Program} {w : World} {t e : TypeId} {a : Addr} {n es : Nat} (hu : P.underlying t = some (.array n e)) (hs : szT P e = some es) {lo hi mx : Option Value} {l h m : Nat}
    (hm : (mx = none ∧ m = n) ∨ ∃ k, mx = some (.int k (.ofNat m)) ∧ m ≤ n)
    (hh : (mx = none ∧ hi = none ∧ h = n) ∨ ∃ k, hi = some (.int k (.ofNat h)) ∧ h ≤ m)
    (hl : (lo = none ∧ l = 0) ∨ ∃ k, lo = some (.int k (.ofNat l)) ∧ l ≤ h) :
    (Instr.sliceAt t (.pointer (some a)) lo hi mx).run P w = .ok (.slice (some (if m = l then a else a.add (l * es))) (h - l) (m - l)) w := by
  simp [Instr.sliceAt, run_underlying hu, Instr.sureAddr, bounds_run false n n hm hh hl, szT_run hs]
theorem add_zero' (a : Addr) : a.add 0 = a := by simp [Addr.add]
theorem PRel.ne {m : M} {b : BId} {off : Nat} {a : Addr} (r : PRel m b off a) : m b ≠ .un := by
  intro e; unfold PRel at r; rw [e] at r; exact r
theorem bnd_le {x : Option Value} {d y n : Nat} (h : (x = none ∧ n = d) ∨ ∃ k, x = some (.int k (.ofNat n)) ∧ n ≤ y) (hd : d ≤ y) : n ≤ y := by
  rcases h with ⟨_, rfl⟩ | ⟨_, _, h⟩ <;> omega
theorem bndh_le {z x : Option Value} {d y n : Nat} (h : (z = none ∧ x = none ∧ n = d) ∨ ∃ k, x = some (.int k (.ofNat n)) ∧ n ≤ y) (hd : z = none → d ≤ y) : n ≤ y := by
  rcases h with ⟨e, _, rfl⟩ | ⟨_, _, h⟩
  · exact hd e
  · exact h
theorem sliceSl_one {P : Program} {m : M} {w : World} {t e : TypeId} {es : Nat} (hu : P.underlying t = some (.slice e)) (hs : szT P e = some es) {x : V} {x' : Value} {lo hi mx : Option V} {lo' hi' mx' : Option Value} (rx : VRel m x x') (rl : ORel m lo lo')
    (rh : ORel m hi hi') (rm : ORel m mx mx') {K : V → Bool} (h : sliceSl es x lo hi mx K = true) : One P m w (Instr.sliceAt t x' lo' hi' mx') K := by
  have no : ∀ (len cap : Nat) (a : Option Addr) (y : Bool), len = 0 → slNo lo hi mx y = true → y = true ∧ ∃ c, (Instr.sliceAt t (.slice a 0 cap) lo' hi' mx').run P w = .ok (.slice a 0 c) w ∧ (cap = 0 → c = 0) := by
    intro len cap a y hz h
    obtain ⟨mm, h1, h⟩ := bndO_inv rm h
    obtain ⟨hh, h2, h⟩ := bndH_inv rm rh h
    obtain ⟨ll, h3, h⟩ := bndO_inv rl h
    have e2 : hh = 0 := by rcases h2 with ⟨_, _, rfl⟩ | ⟨_, _, h⟩ <;> omega
    have e3 : ll = 0 := by rcases h3 with ⟨_, rfl⟩ | ⟨_, _, h⟩ <;> omega
    subst e2 e3
    have ea : (a.map fun x => x.add (0 * es)) = a := by cases a <;> simp [add_zero']
    rcases h1 with ⟨e, rfl⟩ | ⟨k, e, h1⟩
    · refine ⟨h, cap, ?_, id⟩
      rw [slice_run hu hs (m := cap) (h := 0) (l := 0) (.inl ⟨e, rfl⟩) (h2.elim .inl fun ⟨k, e, e'⟩ => .inr ⟨k, e, by omega⟩) h3, ea]
      simp
    · have : mm = 0 := by omega
      subst this
      refine ⟨h, 0, ?_, fun _ => rfl⟩
      rw [slice_run hu hs (m := 0) (h := 0) (l := 0) (.inr ⟨k, e, by omega⟩) (h2.elim .inl fun ⟨k, e, e'⟩ => .inr ⟨k, e, by omega⟩) h3, ea]
      simp
  rcases onSlish_inv h with ⟨b, off, len, cap, rfl, hS⟩ | ⟨rfl, hS⟩ | ⟨rfl, hS⟩
  · cases cap with
    | ex c =>
      cases rx with
      | sl _ _ _ _ a c' r hl hc =>
        have hc : c' = c := hc
        subst hc
        obtain ⟨mm, h1, h⟩ := bndO_inv rm (show slEx es b off len lo hi mx K c' = true from hS)
        obtain ⟨hh, h2, h⟩ := bndH_inv rm rh h
        obtain ⟨ll, h3, h⟩ := bndO_inv rl h
        have l1 := bnd_le h1 (Nat.le_refl _)
        have l2 : hh ≤ mm := bndh_le h2 fun e => by
          rcases h1 with ⟨_, rfl⟩ | ⟨_, e', _⟩
          · exact hl
          · rw [e] at e'; cases e'
        have l3 := bnd_le h3 (Nat.zero_le _)
        obtain ⟨v, rv, hK⟩ := mkSl_inv r l3 l2 h
        refine ⟨v, _, slice_run hu hs h1 h2 h3, ?_, hK⟩
        by_cases e : mm = ll
        · simpa [e] using rv
        · simpa [e] using rv
    | op es' =>
      cases mx with
      | none =>
        cases rm
        obtain ⟨he, hN⟩ := grd_inv (hS : grd (Nat.beq es es') (slOpN es b off len lo hi K) = true)
        have he : es = es' := Nat.eq_of_beq_eq_true he
        subst he
        obtain ⟨hh, h2, h⟩ := bndO_inv rh (hN : slOpN es b off len lo hi K = true)
        obtain ⟨ll, h3, h⟩ := bndO_inv rl h
        simp only [fN_eq] at h
        have l2 := bnd_le h2 (Nat.le_refl _)
        have l3 := bnd_le h3 (Nat.zero_le _)
        cases rx with
        | sl _ _ _ _ a c r hl hc =>
          refine ⟨_, _, slice_run hu hs (m := c) (.inl ⟨rfl, rfl⟩) (h2.elim (fun ⟨e, e'⟩ => .inl ⟨rfl, e, e'⟩) fun ⟨k, e, e'⟩ => .inr ⟨k, e, by omega⟩) h3, ?_, h⟩
          by_cases e : c = ll
          · have e1 : hh - ll = 0 := by omega
            have e2 : c - ll = 0 := by omega
            have e3 : Nat.sub hh ll = 0 := e1
            rw [if_pos e, e1, e2, e3]
            exact .sl0 _ _ _ _ r.ne
          · rw [if_neg e]
            refine .sl _ _ _ _ _ _ r.add (by show hh - ll ≤ c - ll; omega) ?_
            unfold CRel at *
            cases hm : m b with
            | un => exact r.ne hm
            | dead => trivial
            | live B base sz =>
              simp only [hm] at hc
              show base + (off + ll * es) + (c - ll) * es = sz
              have : (c - ll) * es + ll * es = c * es := by rw [← Nat.add_mul]; congr 1; omega
              omega
        | sl0 _ _ _ a r =>
          have e0 : hh = 0 := by omega
          have e1 : ll = 0 := by omega
          subst e0 e1
          refine ⟨_, _, slice_run hu hs (m := 0) (.inl ⟨rfl, rfl⟩) (h2.elim (fun ⟨e, e'⟩ => .inl ⟨rfl, e, e'⟩) fun ⟨k, e, e'⟩ => .inr ⟨k, e, by omega⟩) h3, ?_, h⟩
          simp only [if_pos]
          exact .sl0 _ _ _ _ r
      | some mv =>
        obtain ⟨mm, h1, h⟩ := bndO_inv (d := 0) (y := len) rm (show slOpM es b off len lo hi (some mv) K = true from hS)
        obtain ⟨hh, h2, h⟩ := bndH_inv rm rh h
        obtain ⟨ll, h3, h⟩ := bndO_inv rl h
        cases rm with
        | some _ mv' rm =>
          have h1 : ∃ k, mv' = .int k (.ofNat mm) ∧ mm ≤ len := by
            rcases h1 with ⟨e, _⟩ | ⟨k, e, h⟩
            · cases e
            · cases e; exact ⟨k, rfl, h⟩
          obtain ⟨k, rfl, h1⟩ := h1
          have l2 : hh ≤ mm := bndh_le h2 fun e => by cases e
          have l3 := bnd_le h3 (Nat.zero_le _)
          rcases alt_inv h with ⟨hz, hE⟩ | ⟨hz, hE⟩
          · have hz : len = 0 := Nat.eq_of_beq_eq_true hz
            have e0 : mm = 0 := by omega
            have e1 : hh = 0 := by omega
            have e2 : ll = 0 := by omega
            subst e0 e1 e2
            cases rx with
            | sl _ _ _ _ a c r hl hc => exact ⟨_, _, slice_run hu hs (.inr ⟨k, rfl, by omega⟩) h2 h3, by simpa using VRel.emp a 0, hE⟩
            | sl0 _ _ _ a r => exact ⟨_, _, slice_run hu hs (.inr ⟨k, rfl, by omega⟩) h2 h3, by simpa using VRel.emp a 0, hE⟩
          · have hz : len ≠ 0 := fun e => by subst e; simp at hz
            cases rx with
            | sl _ _ _ _ a c r hl hc =>
              obtain ⟨v, rv, hK⟩ := mkSl_inv r l3 l2 hE
              refine ⟨v, _, slice_run hu hs (.inr ⟨k, rfl, by omega⟩) h2 h3, ?_, hK⟩
              by_cases e : mm = ll
              · simpa [e] using rv
              · simpa [e] using rv
            | sl0 _ _ _ a r => exact absurd rfl hz
  · cases rx
    obtain ⟨h, c, hr, hc⟩ := no 0 0 none _ rfl hS
    have := hc rfl; subst this
    exact ⟨_, _, hr, .nils, h⟩
  · cases rx with
    | emp a c =>
      obtain ⟨h, c', hr, _⟩ := no 0 c (some a) _ rfl hS
      exact ⟨_, _, hr, .emp a c', h⟩
theorem sliceAr_one {P : Program} {m : M} {w : World} {t e : TypeId} {es len : Nat} (hu : P.underlying t = some (.array len e)) (hs : szT P e = some es) {x : V} {x' : Value} {lo hi mx : Option V} {lo' hi' mx' : Option Value} (rx : VRel m x x') (rl : ORel m lo lo')
    (rh : ORel m hi hi') (rm : ORel m mx mx') {K : V → Bool} (h : sliceAr es x lo hi mx K len = true) : One P m w (Instr.sliceAt t x' lo' hi' mx') K := by
  obtain ⟨b, off, rfl, hS⟩ := onPtr_inv h
  cases rx with
  | ptr _ _ a r =>
    obtain ⟨mm, h1, h⟩ := bndO_inv (d := len) (y := len) rm (show slEx es b off len lo hi mx K len = true from hS)
    obtain ⟨hh, h2, h⟩ := bndH_inv rm rh h
    obtain ⟨ll, h3, h⟩ := bndO_inv rl h
    have l2 : hh ≤ mm := bndh_le h2 fun e => by
      rcases h1 with ⟨_, rfl⟩ | ⟨_, e', _⟩
      · exact Nat.le_refl _
      · rw [e] at e'; cases e'
    have l3 := bnd_le h3 (Nat.zero_le _)
    obtain ⟨v, rv, hK⟩ := mkSl_inv r l3 l2 h
    exact ⟨v, _, array_run hu hs h1 h2 h3, rv, hK⟩
end
end Go.Ev
namespace Go.Ev
noncomputable section

def sliceStr (x : V) (lo hi : Option V) (K : V → Bool) : Bool := onStr x fun l => lnK l 0 fun n => bndO hi n n fun hi => bndO lo 0 hi fun lo => dropK l lo fun l => fN (Nat.sub hi lo) fun n => takeK l n fun l => K (.str l)
theorem extract_toNat (s : ByteArray) (l h : Nat) : (s.extract l h).data.toList.map UInt8.toNat = ((s.data.toList.map UInt8.toNat).drop l).take (h - l) := by
  simp [List.map_take, List.map_drop]
theorem sliceStr_one {P : Program} {m : M} {w : World} {t : TypeId} (hu : P.underlying t = some .string) {x : V} {x' : Value} {lo hi : Option V} {lo' hi' : Option Value} (rx : VRel m x x') (rl : ORel m lo lo')
    (rh : ORel m hi hi') {K : V → Bool} (h : sliceStr x lo hi K = true) : One P m w (Instr.sliceAt t x' lo' hi' none) K := by
  obtain ⟨l, rfl, h1⟩ := onStr_inv h
  have h2 := lnK_inv h1
  obtain ⟨hh, h3, h4⟩ := bndO_inv rh h2
  obtain ⟨ll, h5, h6⟩ := bndO_inv rl h4
  obtain ⟨h7, h8⟩ := dropK_inv h6
  rw [fN_eq] at h8
  obtain ⟨h9, h10⟩ := takeK_inv h8
  cases rx with
  | str _ s hl =>
    have e : 0 + l.length = s.size := by rw [size_of_rel hl]; omega
    rw [e] at h3
    refine ⟨_, .string (s.extract ll hh), ?_, .str _ _ ?_, h10⟩
    · have := bounds_run (P := P) (w := w) false s.size s.size (mx := none) (.inl ⟨rfl, rfl⟩) (h3.elim (fun ⟨e, e'⟩ => .inl ⟨rfl, e, e'⟩) .inr) h5
      simp [Instr.sliceAt, Instr.slice, run_underlying hu, this]
    · rw [extract_toNat, hl]; rfl
def strT (P : Program) (t : TypeId) : Bool := match P.underlying t with | some .string => true | _ => false
def sliceK (P : Program) (t : TypeId) (x : V) (lo hi mx : Option V) (K : V → Bool) : Bool :=
  alt (strT P t) (Option.rec (motive := fun _ => Bool) (sliceStr x lo hi K) (fun _ => false) mx) (optK (tyIx P t) fun q => Prod.rec (motive := fun _ => Bool) (fun al es => Option.rec (motive := fun _ => Bool) (sliceSl es x lo hi mx K) (sliceAr es x lo hi mx K) al) q)
theorem sliceK_one {P : Program} {m : M} {w : World} {t : TypeId} {x : V} {x' : Value} {lo hi mx : Option V} {lo' hi' mx' : Option Value} (rx : VRel m x x') (rl : ORel m lo lo')
    (rh : ORel m hi hi') (rm : ORel m mx mx') {K : V → Bool} (h : sliceK P t x lo hi mx K = true) : One P m w (Instr.sliceAt t x' lo' hi' mx') K := by
  rcases alt_inv h with ⟨hs, h1⟩ | ⟨hs, h1⟩
  · unfold strT at hs
    split at hs
    · rename_i hu
      cases rm with
      | none => exact sliceStr_one hu rx rl rh h1
      | some v v' r => exact absurd h1 (by intro e; cases e)
    · cases hs
  · obtain ⟨⟨al, es⟩, hq, h2⟩ := optK_inv h1
    cases al with
    | none =>
      obtain ⟨e, hu, hs⟩ := tyIx_slice hq
      exact sliceSl_one hu hs rx rl rh rm h2
    | some len =>
      obtain ⟨e, hu, hs⟩ := tyIx_array hq
      exact sliceAr_one hu hs rx rl rh rm h2

-- load, store
def loadC (cs : List V) (off : Nat) (t : TypeId) (P : Program) (K : V → Bool) : Bool := optK (aggT P t) fun g => alt g (optK (szT P t) fun n => dropK cs off fun l => takeK l n fun l => K (.agg l)) (nthK cs off K)
def loadK (P : Program) (t : TypeId) (h : Hp) (p : V) (K : V → Bool) : Bool := onPtr p fun b off => onCells h b fun _ cs => loadC cs off t P K
theorem take_len {α : Type} {l : List α} {n : Nat} (h : n ≤ l.length) : (l.take n).length = n := by simp; omega
theorem loadK_one {P : Program} {G : Fr} {m : M} {h : Hp} {w : World} (r : HRel G m h w) {p : V} {p' : Value} (rp : VRel m p p') {t : TypeId} {K : V → Bool} (e : loadK P t h p K = true) :
    One P m w (Instr.loadAt t p') K := by
  obtain ⟨b, off, rfl, h1⟩ := onPtr_inv e
  obtain ⟨ro, cs, hb, h2⟩ := onCells_inv h1
  obtain ⟨g, hg, h3⟩ := optK_inv (show optK (aggT P t) _ = true from h2)
  cases rp with
  | ptr _ _ a ra =>
    rcases alt_inv h3 with ⟨rfl, h4⟩ | ⟨rfl, h4⟩
    · obtain ⟨n, hn, h5⟩ := optK_inv h4
      obtain ⟨h6, h7⟩ := dropK_inv h5
      obtain ⟨h8, h9⟩ := takeK_inv h7
      obtain ⟨l', hl, hf, _, _, hr⟩ := r.row P hb ra (take_len h8)
      exact ⟨_, .agg l'.toArray, by simp [Instr.loadAt, Instr.sureAddr, loadVar, aggT_run hg, szT_run hn, hr], .agg _ _ hl hf, h9⟩
    · obtain ⟨v, hv, h5⟩ := nthK_inv h4
      have hv' : cs[off + 0]? = some v := hv
      obtain ⟨v', hc, hr, _⟩ := r.cell hb ra hv'
      rw [add_zero'] at hc
      exact ⟨v, v', by simp [Instr.loadAt, Instr.sureAddr, loadVar, aggT_run hg, hc], hr, h5⟩

/-- values stored one behind the other -/
theorem store_cells (P : Program) {B : Nat} {t : TypeId} {f : Nat × Nat} (o : Nat) : ∀ (vs : List Value) (i : Nat) (c : Array Value) (w : World), w.heap[B]? = some (.cells c t f) →
    (∀ j, j < c.size → ¬ (f.1 ≤ j ∧ j < f.2)) → o + i + vs.length ≤ c.size → Flat vs →
    ∃ w' c', (storeCells ⟨B, o, none⟩ vs i).run P w = .ok () w' ∧ But w w' B (.cells c' t f) ∧ c'.size = c.size ∧
      ∀ k, c'[k]? = if o + i ≤ k ∧ k < o + i + vs.length then vs[k - (o + i)]? else c[k]?
  | [], i, c, w, hB, hf, hl, hfl => ⟨w, c, rfl, But.refl hB, rfl, fun k => by rw [if_neg]; intro hk; have := hk.2; simp at this; omega⟩
  | v :: vs, i, c, w, hB, hf, hl, hfl => by
    have hadd : (⟨B, o, none⟩ : Addr).add i = ⟨B, o + i, none⟩ := by unfold Addr.add; split <;> simp_all
    have hi : o + i < c.size := by simp at hl; omega
    have h1 := But.setCell (i := o + i) v hB
    obtain ⟨w', c', hr, hb, hs, hk⟩ := store_cells P (t := t) (f := f) o vs (i + 1) (c.setIfInBounds (o + i) v) (w.setCell ⟨B, o + i, none⟩ v) h1.at_ (fun j hj => hf j (by simpa using hj)) (by simp at hl ⊢; omega)
      (fun x hx => hfl x (by simp [hx]))
    have hst : (store ((⟨B, o, none⟩ : Addr).add i) v).run P w = .ok () (w.setCell ⟨B, o + i, none⟩ v) := by
      rw [hadd, run_store P w _ v _ (hfl v (by simp))]
      have e1 : w.cell? ⟨B, o + i, none⟩ = some c[o + i] := by simp [World.cell?, hB, hi]
      have e2 : w.frozen? ⟨B, o + i, none⟩ = false := by
        have := hf (o + i) hi
        simp only [World.frozen?, hB]
        simp; omega
      rw [e1, e2]; rfl
    refine ⟨w', c', by simp only [storeCells, Sem.run_bind, hst, Result.andThen_ok, hr], h1.trans hb, by rw [hs]; simp, fun k => ?_⟩
    rw [hk k]
    by_cases ha : o + i = k
    · subst ha
      rw [if_neg (by omega), if_pos (by simp)]
      simp [hi]
    · by_cases hb : o + (i + 1) ≤ k ∧ k < o + (i + 1) + vs.length
      · rw [if_pos hb, if_pos (by simp; omega)]
        have : k - (o + i) = (k - (o + (i + 1))) + 1 := by omega
        rw [this]; simp
      · rw [if_neg hb, if_neg (by simp; omega), Array.getElem?_setIfInBounds, if_neg ha]
/-- the cells behind a row of values that was written -/
theorem CsRel.puts {m : M} {base : Nat} {cs vs : List V} {c c' : Array Value} {vs' : List Value} {n : Nat} (r : CsRel m base cs c) (rv : LRel m vs vs') (hf : Flat vs')
    (hk : ∀ k, c'[k]? = if base + n ≤ k ∧ k < base + n + vs'.length then vs'[k - (base + n)]? else c[k]?) (hn : n + vs.length ≤ cs.length) :
    CsRel m base (cs.take n ++ (vs ++ cs.drop (n + vs.length))) c' := by
  have hlen := rv.length
  intro i v hv
  by_cases h1 : i < n
  · rw [List.getElem?_append_left (by simp; omega), List.getElem?_take, if_pos h1] at hv
    obtain ⟨v', a, b⟩ := r i v hv
    exact ⟨v', by rw [hk, if_neg (by omega)]; exact a, b⟩
  · have e0 : (cs.take n).length = n := by simp; omega
    rw [List.getElem?_append_right (by omega), e0] at hv
    by_cases h2 : i - n < vs.length
    · rw [List.getElem?_append_left h2] at hv
      obtain ⟨v', a, b⟩ := rv.get hv
      refine ⟨v', ?_, b, hf v' (List.mem_of_getElem? a)⟩
      rw [hk, if_pos (by omega)]
      have : base + i - (base + n) = i - n := by omega
      rw [this]; exact a
    · rw [List.getElem?_append_right (by omega), List.getElem?_drop] at hv
      have e : n + vs.length + (i - n - vs.length) = i := by omega
      rw [e] at hv
      obtain ⟨v', a, b⟩ := r i v hv
      exact ⟨v', by rw [hk, if_neg (by omega)]; exact a, b⟩
/-- a row of values is written into a block -/
theorem HRel.puts {G : Fr} {m : M} {h : Hp} {w : World} (r : HRel G m h w) (P : Program) {b : BId} {cs vs : List V} {vs' : List Value} {off : Nat} {a : Addr} (hb : h.at b = some (.cells false cs))
    (ra : PRel m b off a) (rv : LRel m vs vs') (hf : Flat vs') (hn : off + vs.length ≤ cs.length) :
    ∃ w', (storeCells a vs').run P w = .ok () w' ∧ HRel G m (h.set b (some (.cells false (cs.take off ++ (vs ++ cs.drop (off + vs.length)))))) w' := by
  obtain ⟨B, base, sz, c, t, f, hm, hw, hs, hfr, hc⟩ := r.cells hb
  unfold PRel at ra
  rw [hm] at ra
  subst ra
  have hlen := rv.length
  by_cases hz : vs.length = 0
  · have e1 : vs = [] := List.length_eq_zero_iff.1 hz
    have e2 : vs' = [] := List.length_eq_zero_iff.1 (by omega)
    subst e1 e2
    refine ⟨w, rfl, r.upd hb rfl hm (But.refl hw) ⟨c, t, f, rfl, hs, hfr, ?_⟩⟩
    simpa using hc
  have hbig : base + off + vs'.length ≤ c.size := by
    have hlast : cs[cs.length - 1]? = some cs[cs.length - 1] := List.getElem?_eq_getElem (by omega)
    obtain ⟨v', h1, _⟩ := hc _ _ hlast
    have : base + (cs.length - 1) < c.size := by
      rcases Nat.lt_or_ge (base + (cs.length - 1)) c.size with h | h
      · exact h
      · rw [Array.getElem?_eq_none h] at h1; cases h1
    omega
  obtain ⟨w', c', hr, hbut, hsz, hk⟩ := store_cells P (t := t) (f := f) (base + off) vs' 0 c w hw (fun j hj => hfr rfl j (by omega)) (by omega) hf
  refine ⟨w', hr, r.upd hb rfl hm hbut ⟨c', t, f, rfl, hsz.trans hs, fun _ => hfr rfl, hc.puts rv hf (fun k => ?_) hn⟩⟩
  rw [hk k]; simp

def storeK (P : Program) (t : TypeId) (h : Hp) (p x : V) (K : Hp → Bool) : Bool := onPtr p fun b off => optK (szT P t) fun n => onCells h b fun ro cs => grd (not ro) (
  aggOr x (fun l => lnK l 0 fun k => grd (Nat.beq k n) (putsK l cs off fun cs => setB h b (some (.cells false cs)) K)) (grd (Nat.beq n 1) (setK x cs off fun cs => setB h b (some (.cells false cs)) K)))
theorem set_eq_puts {α : Type} (x : α) : ∀ (l : List α) (n : Nat), n < l.length → l.set n x = l.take n ++ ([x] ++ l.drop (n + 1))
  | [], n, h => by simp at h
  | a :: l, 0, h => by simp
  | a :: l, n + 1, h => by simpa using set_eq_puts x l n (by simpa using h)
theorem storeK_run {P : Program} {G : Fr} {m : M} {h : Hp} {w : World} (r : HRel G m h w) {p x : V} {p' x' : Value} (rp : VRel m p p') (rx : VRel m x x') {t : TypeId} {K : Hp → Bool}
    (e : storeK P t h p x K = true) : ∃ h' w', (Instr.storeAt t p' x').run P w = .ok () w' ∧ Ext m h m h' ∧ HRel G m h' w' ∧ K h' = true := by
  obtain ⟨b, off, rfl, h1⟩ := onPtr_inv e
  obtain ⟨n, hn, h2⟩ := optK_inv h1
  obtain ⟨ro, cs, hb, h3⟩ := onCells_inv h2
  obtain ⟨hro, h4⟩ := grd_inv h3
  have hro : ro = false := by cases ro <;> first | rfl | cases hro
  subst hro
  obtain ⟨hnt, h5⟩ := aggOr_inv h4
  have hflat := rx.flat hnt
  have hcs := rx.cells
  cases rp with
  | ptr _ _ a ra =>
    rcases h5 with ⟨l, rfl, h6⟩ | ⟨_, hone, h6⟩
    · obtain ⟨h7, h8⟩ := grd_inv (lnK_inv h6)
      have h7 : 0 + l.length = n := Nat.eq_of_beq_eq_true h7
      obtain ⟨h9, h10⟩ := putsK_inv h8
      obtain ⟨w', hr, hrel⟩ := r.puts P hb ra hcs hflat h9
      have hsz : x'.cells.size = n := by
        have := hcs.length
        have e : (cellsV (.agg l)).length = l.length := rfl
        rw [← Array.length_toList]; omega
      exact ⟨_, w', by simp [Instr.storeAt, Instr.sureAddr, storeVar, szT_run hn, hsz, hr], Ext.upd _ hb, hrel, setB_inv h10⟩
    · obtain ⟨h7, h8⟩ := grd_inv h6
      have h7 : n = 1 := Nat.eq_of_beq_eq_true h7
      subst h7
      obtain ⟨h9, h10⟩ := setK_inv h8
      rw [hone] at hcs
      obtain ⟨w', hr, hrel⟩ := r.puts P hb ra hcs hflat (by simp; omega)
      have hsz : x'.cells.size = 1 := by
        have := hcs.length
        rw [← Array.length_toList]; simpa using this.symm
      rw [set_eq_puts x cs off h9] at h10
      exact ⟨_, w', by simp [Instr.storeAt, Instr.sureAddr, storeVar, szT_run hn, hsz, hr], Ext.upd _ hb, hrel, setB_inv h10⟩

-- new blocks
theorem CsRel.of {m : M} {cs : List V} {l : List Value} (r : LRel m cs l) (hf : Flat l) : CsRel m 0 cs l.toArray := by
  intro i v hv
  obtain ⟨v', a, b⟩ := r.get hv
  exact ⟨v', by simpa using a, b, hf v' (List.mem_of_getElem? a)⟩
/-- a new block of cells; slices of it that reach as far as it does may be open -/
theorem HRel.cells_new {G : Fr} {m : M} {h : Hp} {w : World} (r : HRel G m h w) {cs : List V} {l : List Value} (rl : LRel m cs l) (hf : Flat l) (t : TypeId) {K : BId → Hp → Bool} (e : newK h (.cells false cs) K = true) :
    ∃ m' h', Ext m h m' h' ∧ m' h.nx = .live w.heap.size 0 l.length ∧ HRel G m' h' (w.alloc (.cells l.toArray t)) ∧ K h.nx h' = true := by
  obtain ⟨y, hy, hK⟩ := newK_inv e
  have hun : m h.nx = .un := r.nx _ (Nat.le_refl _)
  have hle : Le m (m.set h.nx (.live w.heap.size 0 l.length)) := M.le_set hun
  obtain ⟨h1, h2⟩ := r.new hy (base := 0) (sz := l.length) (x := .cells false cs) (o := .cells l.toArray t) ⟨l.toArray, t, (0, 0), rfl, by simp, fun _ i _ => by simp, (CsRel.of rl hf).mono hle⟩
  exact ⟨_, _, Ext.new hy h2, by simp, h1, hK⟩
end
end Go.Ev
namespace Go.Ev
noncomputable section

def bytesV (l : List Nat) : (List V → Bool) → Bool := List.rec (motive := fun _ => (List V → Bool) → Bool) (fun K => K []) (fun n _ ih K => ih fun l => K (.int .u8 (.ofNat n) :: l)) l
theorem bytesV_inv : ∀ {l : List Nat} {K : List V → Bool}, bytesV l K = true → K (l.map fun n => .int .u8 (.ofNat n)) = true
  | [], K, h => h
  | n :: l, K, h => bytesV_inv (l := l) (K := fun l => K (.int .u8 (.ofNat n) :: l)) h
theorem bytes_rel (m : M) : ∀ (l : List UInt8), LRel m ((l.map UInt8.toNat).map fun n => .int .u8 (.ofNat n)) (l.map fun b => .int .u8 b.toNat)
  | [] => .nil
  | b :: l => .cons _ _ _ _ (.int .u8 _) (bytes_rel m l)
theorem bytes_flat (l : List UInt8) : Flat (l.map fun b => Value.int .u8 b.toNat) := by
  intro x hx
  obtain ⟨b, _, rfl⟩ := List.mem_map.1 hx
  rfl
def onSrc (v : V) (f : BId → Nat → Nat → Cap → Bool) (n e : Bool) (s : List Nat → Bool) : Bool := V.rec (motive_1 := fun _ => Bool) (motive_2 := fun _ => Bool) (fun _ _ => false) (fun _ => false) s (fun _ _ => false) false f n e (fun _ => false) false (fun _ _ _ _ _ => false) false (fun _ _ _ => false) false (fun _ _ => false) (fun _ _ => false) false (fun _ _ _ _ => false) v
theorem onSrc_inv {v : V} {f : BId → Nat → Nat → Cap → Bool} {n e : Bool} {s : List Nat → Bool} (h : onSrc v f n e s = true) :
    (∃ b off len cap, v = .sl b off len cap ∧ f b off len cap = true) ∨ (v = .nils ∧ n = true) ∨ (v = .emp ∧ e = true) ∨ ∃ l, v = .str l ∧ s l = true := by
  cases v <;> first | exact .inl ⟨_, _, _, _, rfl, h⟩ | exact .inr (.inl ⟨rfl, h⟩) | exact .inr (.inr (.inl ⟨rfl, h⟩)) | exact .inr (.inr (.inr ⟨_, rfl, h⟩)) | cases h
/-- the cells of what is appended, or copied -/
def srcK (size : Nat) (x : V) (h : Hp) (K : Nat → List V → Bool) : Bool := onSrc x (fun b off len _ => onCells h b fun _ cs => dropK cs off fun l => fN (Nat.mul len size) fun n => takeK l n fun l => K len l) (K 0 []) (K 0 [])
  (fun l => grd (Nat.beq size 1) (bytesV l fun cs => lnK l 0 fun n => K n cs))
theorem srcK_inv {P : Program} {G : Fr} {m : M} {h : Hp} {w : World} (r : HRel G m h w) {x : V} {x' : Value} (rx : VRel m x x') {size : Nat} {K : Nat → List V → Bool} (e : srcK size x h K = true) :
    ∃ n new new', (∀ w, (Builtin.lenOf x').run P w = .ok n w) ∧ LRel m new new' ∧ Flat new' ∧ new'.length = n * size ∧
      (∀ w' : World, w'.heap = w.heap → (Builtin.firstCells size n x').run P w' = .ok new'.toArray w') ∧ K n new = true := by
  rcases onSrc_inv e with ⟨b, off, len, cap, rfl, h1⟩ | ⟨rfl, h1⟩ | ⟨rfl, h1⟩ | ⟨l, rfl, h1⟩
  · obtain ⟨ro, cs, hb, h2⟩ := onCells_inv h1
    obtain ⟨h3, h4⟩ := dropK_inv h2
    rw [fN_eq] at h4
    obtain ⟨h5, h6⟩ := takeK_inv h4
    cases rx with
    | sl _ _ _ _ a c ra hl hc =>
      obtain ⟨l', rl, hf, hlen, hk, _⟩ := r.row P hb ra (take_len h5)
      refine ⟨len, _, l', fun w => rfl, rl, hf, hlen, fun w' hw => ?_, h6⟩
      have : ∀ i v', l'[i]? = some v' → w'.cell? (a.add i) = some v' := fun i v' hi => by
        have := hk i v' hi
        simpa [World.cell?, hw] using this
      have hr := run_loadCells_list (P := P) (w := w') a l' this
      have hlen : l'.length = len * size := hlen
      rw [hlen] at hr
      simpa [Builtin.firstCells] using hr
    | sl0 _ _ _ a ra =>
      have e0 : Nat.mul 0 size = 0 := Nat.zero_mul size
      rw [e0] at h6
      refine ⟨0, [], [], fun w => rfl, .nil, (by intro x hx; cases hx), by simp, fun w' hw => ?_, by simpa using h6⟩
      simp [Builtin.firstCells, loadCells, loadCellsFrom]
  · cases rx
    exact ⟨0, [], [], fun w => rfl, .nil, (by intro x hx; cases hx), by simp, fun w' hw => by simp [Builtin.firstCells], h1⟩
  · cases rx with
    | emp a c => exact ⟨0, [], [], fun w => rfl, .nil, (by intro x hx; cases hx), by simp, fun w' hw => by simp [Builtin.firstCells, loadCells, loadCellsFrom], h1⟩
  · obtain ⟨h2, h3⟩ := grd_inv h1
    have h2 : size = 1 := Nat.eq_of_beq_eq_true h2
    subst h2
    have h4 := lnK_inv (bytesV_inv h3)
    cases rx with
    | str _ s hl =>
      have hs := size_of_rel hl
      have e1 : 0 + l.length = s.size := by omega
      rw [e1] at h4
      refine ⟨s.size, _, s.data.toList.map fun b => .int .u8 b.toNat, fun w => rfl, by rw [← hl]; exact bytes_rel m _, bytes_flat _, ?_, fun w' hw => ?_, h4⟩
      · rw [List.length_map, Array.length_toList, Nat.mul_one]; rfl
      · have hx : (Array.map (fun b : UInt8 => Value.int IntKind.u8 (b.toNat : Int)) s.data).extract 0 s.size = Array.map (fun b : UInt8 => Value.int IntKind.u8 (b.toNat : Int)) s.data := by
          have hs : s.size = (Array.map (fun b : UInt8 => Value.int IntKind.u8 (b.toNat : Int)) s.data).size := by rw [Array.size_map]; rfl
          rw [hs, Array.extract_size]
        show Result.ok ((s.extract 0 s.size).data.map fun b : UInt8 => Value.int .u8 b.toNat) w' = _
        have e : (s.extract 0 s.size).data = s.data := by
          have := ByteArray.extract_zero_size (b := s)
          rw [this]
        rw [e]
        congr 1
        apply Array.toList_inj.1
        simp
end
end Go.Ev
namespace Go.Ev
noncomputable section

theorem zeroCells_size (z : Array Value) (n : Nat) : (Builtin.zeroCells z n).size = n * z.size := by simp [Builtin.zeroCells]
section
variable {P : Program} {tys : Array TypeId} {ty st xt e : TypeId} {xu : TypeDesc} {size sLen sCap n : Nat} {base : Option Addr} {x' : Value} {new : List Value} {w : World} {i : TypeInfo} {z : Value}
theorem append_fit (h0 : tys[0]? = some st) (h1 : tys[1]? = some xt) (hs : P.underlying st = some (.slice e)) (hx : P.underlying xt = some xu) (hi : xu = .string ∨ ∃ u, xu = .slice u) (hi2 : P.info? e = some i)
    (hn : ∀ w, (Builtin.lenOf x').run P w = .ok n w) (hfit : sLen + n ≤ sCap) (hnew : ∀ w' : World, w'.heap = w.heap → (Builtin.firstCells i.size n x').run P w' = .ok new.toArray w') {a : Addr} {w2 : World}
    (hst : (storeCells (a.add (sLen * i.size)) new).run P w = .ok () w2) : (Builtin.append_ tys ty #[.slice (some a) sLen sCap, x']).run P w = .ok (.slice (some a) (sLen + n) sCap) w2 := by
  rcases hi with rfl | ⟨u, rfl⟩ <;> simp [Builtin.append_, h0, h1, run_underlying hs, run_underlying hx, sizeOf, typeInfo, hi2, hn, hfit, hnew w rfl, hst]
theorem append_fit_nil (h0 : tys[0]? = some st) (h1 : tys[1]? = some xt) (hs : P.underlying st = some (.slice e)) (hx : P.underlying xt = some xu) (hi : xu = .string ∨ ∃ u, xu = .slice u) (hi2 : P.info? e = some i)
    (hn : ∀ w, (Builtin.lenOf x').run P w = .ok 0 w) (hnew : ∀ w' : World, w'.heap = w.heap → (Builtin.firstCells i.size 0 x').run P w' = .ok new.toArray w') :
    (Builtin.append_ tys ty #[.slice none 0 0, x']).run P w = .ok (.slice none 0 0) w := by
  rcases hi with rfl | ⟨u, rfl⟩ <;> simp [Builtin.append_, h0, h1, run_underlying hs, run_underlying hx, sizeOf, typeInfo, hi2, hn, hnew w rfl]
theorem append_grow (h0 : tys[0]? = some st) (h1 : tys[1]? = some xt) (hs : P.underlying st = some (.slice e)) (hx : P.underlying xt = some xu) (hi : xu = .string ∨ ∃ u, xu = .slice u) (hi2 : P.info? e = some i) (hz : i.zero = some z)
    (hn : ∀ w, (Builtin.lenOf x').run P w = .ok n w) (hg : sCap < sLen + n) (hsmall : sLen + n ≤ 100000) (hb : i.bytes ≤ 100000)
    {old : List Value} (hold : ∀ w' : World, w'.heap = w.heap → (Builtin.firstCells i.size sLen (.slice base sLen sCap)).run P w' = .ok old.toArray w')
    (hnew : ∀ w' : World, w'.heap = w.heap → (Builtin.firstCells i.size n x').run P w' = .ok new.toArray w') :
    ∃ cap rest, sLen + n ≤ cap ∧ rest.length = (cap - (sLen + n)) * z.cells.size ∧
      (Builtin.append_ tys ty #[.slice base sLen sCap, x']).run P w = .ok (.slice (some ⟨w.heap.size, 0, none⟩) (sLen + n) cap) (w.drew.alloc (.cells (old ++ new ++ rest).toArray e)) := by
  have hfit : ¬ (sLen + n ≤ sCap) := by omega
  have hmul : (sLen + n) * i.bytes ≤ 140737488355328 := Nat.le_trans (Nat.mul_le_mul hsmall hb) (by decide)
  have h48 : ¬ (281474976710656 < Builtin.nextslicecap (sLen + n) sCap * i.bytes) := by have := growslice_fits hg hmul; omega
  have h63 : ¬ (9223372036854775807 < ((sLen : Int) + (n : Int))) := by omega
  refine ⟨grownCap w (sLen + n) sCap e, (Builtin.zeroCells z.cells (grownCap w (sLen + n) sCap e - (sLen + n))).toList, grownCap_ge w _ _ e, ?_, ?_⟩
  · rw [Array.length_toList, zeroCells_size]
  · have ho := hold w.drew rfl
    have hw := hnew w.drew rfl
    have eb : old.toArray ++ (new.toArray ++ Builtin.zeroCells z.cells (grownCap w (sLen + n) sCap e - (sLen + n))) = (old ++ new).toArray ++ Builtin.zeroCells z.cells (grownCap w (sLen + n) sCap e - (sLen + n)) := by
      apply Array.toList_inj.1; simp
    unfold grownCap at eb
    have ea : (old ++ new ++ (Builtin.zeroCells z.cells (grownCap w (sLen + n) sCap e - (sLen + n))).toList).toArray = old.toArray ++ new.toArray ++ Builtin.zeroCells z.cells (grownCap w (sLen + n) sCap e - (sLen + n)) := by
      apply Array.toList_inj.1; simp
    rw [ea]
    have ha : ∀ k w, (askRoom k).run P w = .ok () w := fun k w => by unfold askRoom; split <;> rfl
    rcases hi with rfl | ⟨u, rfl⟩ <;> simp [Builtin.append_, h0, h1, run_underlying hs, run_underlying hx, sizeOf, typeInfo, zeroValue, hi2, hz, hn, hfit, h48, h63, Question.forced, ho, hw, newRow, grownCap, ha, eb]
end
end
end Go.Ev
namespace Go.Ev
noncomputable section

def okS : TypeDesc → Bool
  | .string => true
  | .slice _ => true
  | _ => false
def apT (P : Program) (ts : List TypeId) : Option Nat := match ts with
  | st :: xt :: _ => match P.underlying st, P.underlying xt with
    | some (.slice e), some xu => match okS xu, P.info? e with
      | true, some i => match i.zero with
        | some z => if z.cells.size = i.size ∧ i.bytes ≤ 100000 then some i.size else none
        | none => none
      | _, _ => none
    | _, _ => none
  | _ => none
theorem apT_eq {P : Program} {ts : Array TypeId} {size : Nat} (h : apT P ts.toList = some size) : ∃ st xt e xu i z, ts[0]? = some st ∧ ts[1]? = some xt ∧ P.underlying st = some (.slice e) ∧
    P.underlying xt = some xu ∧ (xu = .string ∨ ∃ u, xu = .slice u) ∧ P.info? e = some i ∧ i.zero = some z ∧ z.cells.size = size ∧ i.bytes ≤ 100000 ∧ i.size = size := by
  obtain ⟨l⟩ := ts
  unfold apT at h
  split at h
  · rename_i st xt r hl
    have hl : l = st :: xt :: r := hl
    subst hl
    split at h
    · rename_i e xu hs hx
      split at h
      · rename_i i hok hi
        split at h
        · rename_i z hz
          split at h
          · rename_i hc
            cases h
            refine ⟨st, xt, e, xu, i, z, rfl, rfl, hs, hx, ?_, hi, hz, hc.1, hc.2, rfl⟩
            cases xu <;> first | exact .inl rfl | exact .inr ⟨_, rfl⟩ | cases hok
          · cases h
        · cases h
      · cases h
    · cases h
  · cases h
/-- a new block of cells, of which the first ones are known -/
theorem HRel.row_new {G : Fr} {m : M} {h : Hp} {w : World} (r : HRel G m h w) {cs : List V} {l rest : List Value} (rl : LRel m cs l) (hf : Flat l) (t : TypeId) {K : BId → Hp → Bool} (e : newK h (.cells false cs) K = true) :
    ∃ m' h', Ext m h m' h' ∧ m' h.nx = .live w.heap.size 0 (l ++ rest).length ∧ HRel G m' h' (w.alloc (.cells (l ++ rest).toArray t)) ∧ K h.nx h' = true := by
  obtain ⟨y, hy, hK⟩ := newK_inv e
  have hun : m h.nx = .un := r.nx _ (Nat.le_refl _)
  have hle : Le m (m.set h.nx (.live w.heap.size 0 (l ++ rest).length)) := M.le_set hun
  have hc : CsRel m 0 cs (l ++ rest).toArray := by
    intro i v hv
    obtain ⟨v', a, b⟩ := rl.get hv
    refine ⟨v', ?_, b, hf v' (List.mem_of_getElem? a)⟩
    have hi : i < l.length := by
      rcases Nat.lt_or_ge i l.length with h | h
      · exact h
      · rw [List.getElem?_eq_none h] at a; cases a
    simp [List.getElem?_append_left hi, a]
  obtain ⟨h1, h2⟩ := r.new hy (base := 0) (sz := (l ++ rest).length) (x := .cells false cs) (o := .cells (l ++ rest).toArray t) ⟨(l ++ rest).toArray, t, (0, 0), rfl, by simp, fun _ i _ => by simp, hc.mono hle⟩
  exact ⟨_, _, Ext.new hy h2, by simp, h1, hK⟩
theorem HRel.ne_of_at {G : Fr} {m : M} {h : Hp} {w : World} (r : HRel G m h w) {b : BId} {x : Blk} (hb : h.at b = some x) : m b ≠ .un := by
  obtain ⟨B, base, sz, o, hm, _⟩ := r.blk b x hb
  rw [hm]; intro e; cases e
/-- a block is given up -/
theorem HRel.drop {G : Fr} {m : M} {h : Hp} {w : World} (r : HRel G m h w) {b : BId} {x : Blk} (hb : h.at b = some x) :
    HRel G (m.set b .dead) (h.set b none) w ∧ Ext m h (m.set b .dead) (h.set b none) := by
  rcases r.kill b with ⟨h1, h2⟩ | h1
  · refine ⟨h1, h2, Nat.le_refl _, fun c hc hn => ?_⟩
    have hne : c ≠ b := fun e => by subst e; rw [hb] at hn; cases hn
    exact ⟨by rw [Hp.at_set_ne _ _ hne]; exact hn, M.set_ne _ _ hne⟩
  · exact absurd h1 (r.ne_of_at hb)
theorem Flat.append {a b : List Value} (h : Flat a) (k : Flat b) : Flat (a ++ b) := by
  intro x hx
  rcases List.mem_append.1 hx with hx | hx
  · exact h x hx
  · exact k x hx
def apMove (size : Nat) (off len need : Nat) (cs new : List V) (h : Hp) (K : V → Hp → Bool) : Bool := grd (Nat.ble need 100000) (dropK cs off fun l => fN (Nat.mul len size) fun k => takeK l k fun old => catK new old fun cs => newK h (.cells false cs) fun b h => K (.sl b 0 need (.op size)) h)
def apEx (size : Nat) (new : List V) (h : Hp) (K : V → Hp → Bool) (b : BId) (off len need : Nat) (ro : Bool) (cs : List V) (c : Nat) : Bool :=
  alt (Nat.ble need c) (grd (not ro) (fN (Nat.add off (Nat.mul len size)) fun o => putsK new cs o fun cs => setB h b (some (.cells false cs)) fun h => K (.sl b off need (.ex c)) h)) (apMove size off len need cs new h K)
def apOp (size : Nat) (n : Nat) (new : List V) (h : Hp) (K : V → Hp → Bool) (b : BId) (off len need : Nat) (ro : Bool) (cs : List V) (es : Nat) : Bool :=
  grd (Nat.beq es size) (grd (not ro) (alt (Nat.beq n 0) (K (.sl b off need (.op es)) h) (setB h b none fun h => apMove size off len need cs new h K)))
def apSl (size : Nat) (n : Nat) (new : List V) (h : Hp) (K : V → Hp → Bool) (b : BId) (off len : Nat) (cap : Cap) : Bool := onCells h b fun ro cs => fN (Nat.add len n) fun need =>
  Cap.rec (motive := fun _ => Bool) (apEx size new h K b off len need ro cs) (apOp size n new h K b off len need ro cs) cap
def apNil (size : Nat) (n : Nat) (new : List V) (h : Hp) (K : V → Hp → Bool) : Bool := alt (Nat.beq n 0) (K .nils h) (grd (Nat.ble n 100000) (newK h (.cells false new) fun b h => K (.sl b 0 n (.op size)) h))
def appendK (P : Program) (ts : List TypeId) (s x : V) (h : Hp) (K : V → Hp → Bool) : Bool := optK (apT P ts) fun size => srcK size x h fun n new => onSlish s (apSl size n new h K) (apNil size n new h K) false
theorem LRel.append' {m : M} {k : List V} {k' : List Value} (hk : LRel m k k') {l : List V} {l' : List Value} (hl : LRel m l l') : LRel m (l ++ k) (l' ++ k') := LRel.append hk hl
theorem apMove_inv {size off len need : Nat} {cs new : List V} {h : Hp} {K : V → Hp → Bool} (e : apMove size off len need cs new h K = true) :
    need ≤ 100000 ∧ len * size ≤ (cs.drop off).length ∧ newK h (.cells false ((cs.drop off).take (len * size) ++ new)) (fun b h => K (.sl b 0 need (.op size)) h) = true := by
  obtain ⟨h1, h2⟩ := grd_inv e
  obtain ⟨h3, h4⟩ := dropK_inv h2
  rw [fN_eq] at h4
  obtain ⟨h5, h6⟩ := takeK_inv h4
  exact ⟨Nat.le_of_ble_eq_true h1, h5, catK_inv h6⟩
theorem first_old {P : Program} {G : Fr} {m : M} {h : Hp} {w : World} (r : HRel G m h w) {b : BId} {ro : Bool} {cs : List V} (hb : h.at b = some (.cells ro cs)) {off : Nat} {a : Addr} (ra : PRel m b off a) {len size c : Nat}
    (hl : len * size ≤ (cs.drop off).length) : ∃ old, LRel m ((cs.drop off).take (len * size)) old ∧ Flat old ∧ old.length = len * size ∧ (∀ i v', old[i]? = some v' → w.cell? (a.add i) = some v') ∧
      ∀ w' : World, w'.heap = w.heap → (Builtin.firstCells size len (.slice (some a) len c)).run P w' = .ok old.toArray w' := by
  obtain ⟨l', rl, hf, hlen, hk, _⟩ := r.row P hb ra (take_len hl)
  refine ⟨l', rl, hf, hlen, hk, fun w' hw => ?_⟩
  have : ∀ i v', l'[i]? = some v' → w'.cell? (a.add i) = some v' := fun i v' hi => by
    have := hk i v' hi
    simpa [World.cell?, hw] using this
  have hr := run_loadCells_list (P := P) (w := w') a l' this
  rw [hlen] at hr
  simpa [Builtin.firstCells] using hr
/-- the new slice of a block that was just made -/
theorem new_sl {m' : M} {b : BId} {B need c size k : Nat} {old new rest : List Value} (hm : m' b = .live B 0 (old ++ new ++ rest).length) (hc : need ≤ c) (ho : old.length = k * size) (hn : new.length = (need - k) * size) (hk : k ≤ need)
    (hr : rest.length = (c - need) * size) : VRel m' (.sl b 0 need (.op size)) (.slice (some ⟨B, 0, none⟩) need c) := by
  refine .sl _ _ _ _ _ _ ?_ hc ?_
  · unfold PRel; rw [hm]
  · unfold CRel; simp only [hm, List.length_append, ho, hn, hr]
    have : k * size + (need - k) * size + (c - need) * size = c * size := by rw [← Nat.add_mul, ← Nat.add_mul]; congr 1; omega
    omega
theorem appendK_many {P : Program} {G : Fr} {m : M} {h : Hp} {w : World} (r : HRel G m h w) {s x : V} {s' x' : Value} (rs : VRel m s s') (rx : VRel m x x') {ts : Array TypeId} (ty : TypeId) {K : V → Hp → Bool}
    (e : appendK P ts.toList s x h K = true) : Many P G m h w (Builtin.append_ ts ty #[s', x']) K := by
  obtain ⟨size, hs, h1⟩ := optK_inv e
  obtain ⟨st, xt, el, xu, i, z, t0, t1, u0, u1, ok, hi, hz, hzs, hby, hsz⟩ := apT_eq hs
  obtain ⟨n, new, new', hn, rn, fn, ln, hnew, h2⟩ := srcK_inv (P := P) r rx h1
  rw [← hsz] at hnew
  rcases onSlish_inv h2 with ⟨b, off, len, cap, rfl, h3⟩ | ⟨rfl, h3⟩ | ⟨rfl, h3⟩
  · obtain ⟨ro, cs, hb, h4⟩ := onCells_inv h3
    rw [fN_eq] at h4
    cases cap with
    | ex c =>
      cases rs with
      | sl _ _ _ _ a c' ra hl hc =>
        have hc : c' = c := hc
        subst hc
        rcases alt_inv (show alt (Nat.ble (Nat.add len n) c') _ _ = true from h4) with ⟨h5, h6⟩ | ⟨h5, h6⟩
        · have h5 : len + n ≤ c' := Nat.le_of_ble_eq_true h5
          obtain ⟨h7, h8⟩ := grd_inv h6
          have hro : ro = false := by cases ro <;> first | rfl | cases h7
          subst hro
          rw [fN_eq] at h8
          obtain ⟨h9, h10⟩ := putsK_inv h8
          have ra' : PRel m b (off + len * size) (a.add (len * size)) := ra.add
          obtain ⟨w', hst, r'⟩ := r.puts P hb ra' rn fn h9
          rw [← hsz] at hst
          exact ⟨_, _, _, w', m, append_fit (ty := ty) t0 t1 u0 u1 ok hi hn h5 hnew hst, Ext.upd _ hb, VRel.sl b off (len + n) (.ex c') a c' ra h5 rfl, r', setB_inv h10⟩
        · obtain ⟨h7, h8, h9⟩ := apMove_inv h6
          have h7 : len + n ≤ 100000 := h7
          have hg : c' < len + n := by
            rcases Nat.lt_or_ge c' (len + n) with h | h
            · exact h
            · rw [show Nat.ble (Nat.add len n) c' = true from Nat.ble_eq_true_of_le h] at h5; cases h5
          obtain ⟨old, ro1, fo, lo, _, hold⟩ := first_old (P := P) (c := c') r hb ra h8
          rw [← hsz] at hold
          obtain ⟨c2, rest, hc2, hrest, hr⟩ := append_grow (ty := ty) t0 t1 u0 u1 ok hi hz hn hg h7 hby hold hnew
          obtain ⟨m', h', x1, hm', r', hK⟩ := r.drew.row_new (rest := rest) (rn.append' ro1) (fo.append fn) el h9
          rw [hzs] at hrest
          exact ⟨_, _, h', _, m', hr, x1, new_sl hm' hc2 lo (by rw [ln]; congr 1; omega) (by omega) hrest, r', hK⟩
    | op es =>
      obtain ⟨h5, h6⟩ := grd_inv (show grd (Nat.beq es size) _ = true from h4)
      have h5 : es = size := Nat.eq_of_beq_eq_true h5
      subst h5
      obtain ⟨h7, h8⟩ := grd_inv h6
      have hro : ro = false := by cases ro <;> first | rfl | cases h7
      subst hro
      rcases alt_inv h8 with ⟨h9, h10⟩ | ⟨h9, h10⟩
      · have h9 : n = 0 := Nat.eq_of_beq_eq_true h9
        subst h9
        have e0 : new' = [] := List.length_eq_zero_iff.1 (by omega)
        subst e0
        cases rs with
        | sl _ _ _ _ a c ra hl hc => exact ⟨_, _, h, w, m, append_fit (ty := ty) t0 t1 u0 u1 ok hi hn (by simpa using hl) hnew rfl, Ext.refl m h, VRel.sl b off len (.op es) a c ra hl hc, r, h10⟩
        | sl0 _ _ _ a ra => exact ⟨_, _, h, w, m, append_fit (ty := ty) t0 t1 u0 u1 ok hi hn (by simp) hnew rfl, Ext.refl m h, VRel.sl0 b off es a ra, r, h10⟩
      · have hpos : 0 < n := by
          rcases Nat.eq_zero_or_pos n with hz | hz
          · subst hz; simp at h9
          · exact hz
        obtain ⟨h11, h12, h13⟩ := apMove_inv (setB_inv h10)
        have h11 : len + n ≤ 100000 := h11
        obtain ⟨rd, xd⟩ := r.drop hb
        have grow : ∀ (a : Addr) (c : Nat), c < len + n → (∃ old, LRel m ((cs.drop off).take (len * es)) old ∧ Flat old ∧ old.length = len * es ∧
            ∀ w' : World, w'.heap = w.heap → (Builtin.firstCells es len (.slice (some a) len c)).run P w' = .ok old.toArray w') →
            Many P G m h w (Builtin.append_ ts ty #[.slice (some a) len c, x']) K := by
          intro a c hg ⟨old, ro1, fo, lo, hold⟩
          rw [← hsz] at hold
          obtain ⟨c2, rest, hc2, hrest, hr⟩ := append_grow (ty := ty) t0 t1 u0 u1 ok hi hz hn hg h11 hby hold hnew
          obtain ⟨m', h', x1, hm', r', hK⟩ := rd.drew.row_new (rest := rest) ((rn.append' ro1).mono xd.le) (fo.append fn) el h13
          rw [hzs] at hrest
          exact ⟨_, _, h', _, m', hr, xd.trans x1, new_sl hm' hc2 lo (by rw [ln]; congr 1; omega) (by omega) hrest, r', hK⟩
        cases rs with
        | sl0 _ _ _ a ra =>
          refine grow a 0 (by omega) ⟨[], by simpa using LRel.nil, (by intro x hx; cases hx), by simp, fun w' _ => ?_⟩
          simp [Builtin.firstCells, loadCells, loadCellsFrom]
        | sl _ _ _ _ a c ra hl hc =>
          obtain ⟨old, ro1, fo, lo, hk, hold⟩ := first_old (P := P) (c := c) r hb ra h12
          rcases Nat.lt_or_ge c (len + n) with hg | hg
          · exact grow a c hg ⟨old, ro1, fo, lo, hold⟩
          · obtain ⟨B, base, sz, ca, t, f, hm, hw, hsc, hfr, hcs⟩ := r.cells hb
            have ea : a = ⟨B, base + off, none⟩ := by unfold PRel at ra; rw [hm] at ra; exact ra
            have ec : base + off + c * es = sz := by unfold CRel at hc; simp only [hm] at hc; exact hc
            have hle : len * es + n * es ≤ c * es := by rw [← Nat.add_mul]; exact Nat.mul_le_mul_right _ hg
            obtain ⟨w', ca', hst, hbut, hs', hk'⟩ := store_cells P (t := t) (f := f) (base + off + len * es) new' 0 ca w hw (fun j hj => hfr rfl j (by omega)) (by omega) fn
            have hadd : a.add (len * i.size) = ⟨B, base + off + len * es, none⟩ := by
              rw [ea, hsz]; unfold Addr.add; split
              · rename_i hz0; simp [hz0]
              · rfl
            rw [← hadd] at hst
            obtain ⟨y, hy, hK⟩ := newK_inv h13
            have hx : CsRel m (base + off) ((cs.drop off).take (len * es) ++ new) ca' := by
              intro j v hv
              have l1 := ro1.length
              by_cases hj : j < len * es
              · rw [List.getElem?_append_left (by omega), List.getElem?_take, if_pos hj, List.getElem?_drop] at hv
                obtain ⟨v', a1, b1⟩ := hcs _ _ hv
                refine ⟨v', ?_, b1⟩
                rw [hk', if_neg (by omega), Nat.add_assoc]; exact a1
              · rw [List.getElem?_append_right (by omega)] at hv
                obtain ⟨v', a1, b1⟩ := rn.get hv
                refine ⟨v', ?_, b1, fn v' (List.mem_of_getElem? a1)⟩
                have hlt : j - (((cs.drop off).take (len * es)).length) < new'.length := by
                  rcases Nat.lt_or_ge (j - (((cs.drop off).take (len * es)).length)) new'.length with h | h
                  · exact h
                  · rw [List.getElem?_eq_none h] at a1; cases a1
                rw [hk', if_pos (by omega)]
                have : base + off + j - (base + off + len * es + 0) = j - ((cs.drop off).take (len * es)).length := by omega
                rw [this]; exact a1
            have hxle : Le m ((m.set b .dead).set h.nx (.live B (base + off) sz)) := M.le_kill.trans (M.le_set (by
              have hbn : h.nx ≠ b := fun e => by have := r.nx h.nx (Nat.le_refl _); rw [e, hm] at this; cases this
              rw [M.set_ne _ _ hbn]; exact r.nx _ (Nat.le_refl _)))
            obtain ⟨r', hle'⟩ := r.move (y := y) hy (base' := base + off) hb rfl hm hbut (x' := .cells false ((cs.drop off).take (len * es) ++ new)) ⟨ca', t, f, rfl, hs'.trans hsc, fun _ => hfr rfl, hx.mono hxle⟩
            refine ⟨_, _, _, w', _, append_fit (ty := ty) t0 t1 u0 u1 ok hi hn hg hnew hst, ⟨hle', by show h.nx.val ≤ y.val; have : y.val = h.nx.val + 1 := hy; omega, fun d hd hnone => ?_⟩, ?_, r', hK⟩
            · have hnx : d ≠ h.nx := fun e => by subst e; omega
              have hdb : d ≠ b := fun e => by subst e; rw [hb] at hnone; cases hnone
              exact ⟨by rw [Hp.at_add_ne _ _ _ (by simpa using hnx), Hp.at_set_ne _ _ hdb]; exact hnone, by rw [M.set_ne _ _ hnx, M.set_ne _ _ hdb]⟩
            · refine VRel.sl h.nx 0 (len + n) (.op es) a c ?_ hg ?_
              · unfold PRel; simp [ea]
              · unfold CRel; simp only [M.set_same]; omega
  · cases rs
    rcases alt_inv h3 with ⟨h4, h5⟩ | ⟨h4, h5⟩
    · have h4 : n = 0 := Nat.eq_of_beq_eq_true h4
      subst h4
      exact ⟨.nils, _, h, w, m, append_fit_nil t0 t1 u0 u1 ok hi hn hnew, Ext.refl m h, .nils, r, h5⟩
    · obtain ⟨h6, h7⟩ := grd_inv h5
      have h6 := Nat.le_of_ble_eq_true h6
      have hpos : 0 < n := by
        rcases Nat.eq_zero_or_pos n with hz | hz
        · subst hz; simp at h4
        · exact hz
      obtain ⟨c, rest, hc, hrest, hr⟩ := append_grow (ty := ty) (base := none) (sLen := 0) (sCap := 0) (old := []) t0 t1 u0 u1 ok hi hz hn (by omega) (by omega) hby (fun w' _ => by simp [Builtin.firstCells]) hnew
      obtain ⟨m', h', x1, hm', r', hK⟩ := r.drew.row_new (rest := rest) rn fn el h7
      refine ⟨_, _, h', _, m', hr, x1, ?_, by simpa using r', hK⟩
      have hm' : m' h.nx = .live w.heap.size 0 (new' ++ rest).length := hm'
      rw [Nat.zero_add]
      refine .sl _ _ _ _ _ _ ?_ (by omega) ?_
      · unfold PRel; rw [hm']
      · unfold CRel; simp only [hm']
        simp only [List.length_append, ln, hrest, hzs]
        have : n * size + (c - (0 + n)) * size = c * size := by rw [← Nat.add_mul]; congr 1; omega
        omega
  · cases h3
end
end Go.Ev
namespace Go.Ev
noncomputable section

inductive LT where
  | str | arr (n : Nat) | sl | mp
def lenT (P : Program) (t : TypeId) : Option LT := match P.underlying t with
  | some .string => some .str
  | some (.array n _) => some (.arr n)
  | some (.slice _) => some .sl
  | some (.map _ _) => some .mp
  | _ => none
def numK (K : V → Bool) (n : Nat) : Bool := K (.int .i64 (.ofNat n))
def onMpN (v : V) (f : BId → Bool) (n : Bool) : Bool := V.rec (motive_1 := fun _ => Bool) (motive_2 := fun _ => Bool) (fun _ _ => false) (fun _ => false) (fun _ => false) (fun _ _ => false) false (fun _ _ _ _ => false) false false f n (fun _ _ _ _ _ => false) false (fun _ _ _ => false) false (fun _ _ => false) (fun _ _ => false) false (fun _ _ _ _ => false) v
theorem onMpN_inv {v : V} {f : BId → Bool} {n : Bool} (h : onMpN v f n = true) : (∃ b, v = .mp b ∧ f b = true) ∨ (v = .nilm ∧ n = true) := by
  cases v <;> first | exact .inl ⟨_, rfl, h⟩ | exact .inr ⟨rfl, h⟩ | cases h
def lenK (P : Program) (t : TypeId) (x : V) (h : Hp) (K : V → Bool) : Bool := optK (lenT P t) fun q => LT.rec (motive := fun _ => Bool) (onStr x fun l => lnK l 0 (numK K)) (fun n => numK K n) (onSlish x (fun _ _ len _ => numK K len) (numK K 0) (numK K 0))
  (onMpN x (fun b => onMap h b fun _ es _ => lnK es 0 (numK K)) (numK K 0)) q
theorem HRel.mapOf {G : Fr} {m : M} {h : Hp} {w : World} (r : HRel G m h w) {b : BId} {clock : Nat} {es : List (V × V)} {st : List Nat} (hb : h.at b = some (.map clock es st)) {R : Nat} (hr : MRel m b R) :
    ∃ l base sz, m b = .live R base sz ∧ w.heap[R]? = some (.map l clock) ∧ ERel m es l.toList ∧ l.toList.map (·.born) = st := by
  obtain ⟨B, base, sz, o, hm, hw, l, rfl, he, hbn⟩ := r.blk b _ hb
  unfold MRel at hr
  rw [hm] at hr
  subst hr
  exact ⟨l, base, sz, hm, hw, he, hbn⟩
theorem ERel.length {m : M} {es : List (V × V)} {l : List MapEntry} (r : ERel m es l) : es.length = l.length := by
  induction r with
  | nil => rfl
  | cons => simp [*]
theorem run_getMap {P : Program} {w : World} {R : Nat} {l : Array MapEntry} {clock : Nat} (hw : w.heap[R]? = some (.map l clock)) : (getObj R).run P w = .ok (.map l clock) w := by
  simp [getObj, Sem.run, hw]
theorem lenK_one {P : Program} {G : Fr} {m : M} {h : Hp} {w : World} (r : HRel G m h w) {x : V} {x' : Value} (rx : VRel m x x') {ts : Array TypeId} {t : TypeId} (ht : ts[0]? = some t) (ty : TypeId) {K : V → Bool} (e : lenK P t x h K = true) :
    One P m w (Builtin.len_ ts ty #[x']) K := by
  obtain ⟨q, hq, h1⟩ := optK_inv e
  unfold lenT at hq
  split at hq
  · rename_i hu
    cases hq
    obtain ⟨l, rfl, h2⟩ := onStr_inv (show onStr x _ = true from h1)
    have h3 := lnK_inv h2
    cases rx with
    | str _ s hl =>
      have e1 : 0 + l.length = s.size := by rw [size_of_rel hl]; omega
      rw [e1] at h3
      exact ⟨_, _, by simp [Builtin.len_, ht, run_underlying hu]; rfl, .int .i64 _, h3⟩
  · rename_i n el hu
    cases hq
    exact ⟨_, _, by simp [Builtin.len_, ht, run_underlying hu]; rfl, .int .i64 _, h1⟩
  · rename_i el hu
    cases hq
    rcases onSlish_inv (show onSlish x _ _ _ = true from h1) with ⟨b, off, len, cap, rfl, h2⟩ | ⟨rfl, h2⟩ | ⟨rfl, h2⟩
    · cases rx with
      | sl _ _ _ _ a c ra hl hc => exact ⟨_, _, by simp [Builtin.len_, ht, run_underlying hu]; rfl, .int .i64 _, h2⟩
      | sl0 _ _ _ a ra => exact ⟨_, _, by simp [Builtin.len_, ht, run_underlying hu]; rfl, .int .i64 _, h2⟩
    · cases rx
      exact ⟨_, _, by simp [Builtin.len_, ht, run_underlying hu]; rfl, .int .i64 _, h2⟩
    · cases rx
      exact ⟨_, _, by simp [Builtin.len_, ht, run_underlying hu]; rfl, .int .i64 _, h2⟩
  · rename_i kt el hu
    cases hq
    rcases onMpN_inv (show onMpN x _ _ = true from h1) with ⟨b, rfl, h2⟩ | ⟨rfl, h2⟩
    · obtain ⟨ver, es, st, hb, h3⟩ := onMap_inv h2
      have h4 := lnK_inv h3
      cases rx with
      | mp _ R hr =>
        obtain ⟨l, base, sz, hm, hw, he, _⟩ := r.mapOf hb hr
        have e1 : 0 + es.length = l.size := by rw [he.length]; simp
        rw [e1] at h4
        exact ⟨_, _, by simp [Builtin.len_, ht, run_underlying hu, run_getMap hw]; rfl, .int .i64 _, h4⟩
    · cases rx
      exact ⟨_, _, by simp [Builtin.len_, ht, run_underlying hu]; rfl, .int .i64 _, h2⟩
  · cases hq

def slT (P : Program) (t : TypeId) : Bool := match P.underlying t with | some (.slice _) => true | _ => false
theorem slT_eq {P : Program} {t : TypeId} (h : slT P t = true) : ∃ e, P.underlying t = some (.slice e) := by
  unfold slT at h
  split at h
  · rename_i e hu; exact ⟨e, hu⟩
  · cases h
def capC (K : V → Bool) (_ : BId) (_ _ : Nat) (cap : Cap) : Bool := Cap.rec (motive := fun _ => Bool) (numK K) (fun _ => false) cap
def capK (P : Program) (t : TypeId) (x : V) (K : V → Bool) : Bool := grd (slT P t) (onSlish x (capC K) (numK K 0) false)
theorem capK_one {P : Program} {m : M} {w : World} {x : V} {x' : Value} (rx : VRel m x x') {ts : Array TypeId} {t : TypeId} (ht : ts[0]? = some t) (ty : TypeId) {K : V → Bool} (e : capK P t x K = true) :
    One P m w (Builtin.cap_ ts ty #[x']) K := by
  obtain ⟨h0, h1⟩ := grd_inv e
  obtain ⟨el, hu⟩ := slT_eq h0
  rcases onSlish_inv h1 with ⟨b, off, len, cap, rfl, h2⟩ | ⟨rfl, h2⟩ | ⟨rfl, h2⟩
  · cases cap with
    | op es => cases h2
    | ex c =>
      cases rx with
      | sl _ _ _ _ a c' ra hl hc =>
        have hc : c' = c := hc
        subst hc
        exact ⟨_, _, by simp [Builtin.cap_, ht, run_underlying hu]; rfl, .int .i64 _, h2⟩
  · cases rx
    exact ⟨_, _, by simp [Builtin.cap_, ht, run_underlying hu]; rfl, .int .i64 _, h2⟩
  · cases h2

-- the greater, the smaller
def mxK (mx : Bool) (x y : Int) (K : Int → Bool) : Bool := alt mx (alt (ltI x y) (K y) (K x)) (alt (ltI y x) (K y) (K x))
theorem mxK_inv {mx : Bool} {x y : Int} {K : Int → Bool} (h : mxK mx x y K = true) : K (if mx then (if y > x then y else x) else (if y < x then y else x)) = true := by
  rcases alt_inv h with ⟨rfl, h1⟩ | ⟨rfl, h1⟩ <;> rcases alt_inv h1 with ⟨h2, h3⟩ | ⟨h2, h3⟩ <;> rw [ltI_eq] at h2
  · have : y > x := by simpa using h2
    simpa [this] using h3
  · have : ¬ y > x := by simpa using h2
    simpa [this] using h3
  · have : y < x := by simpa using h2
    simpa [this] using h3
  · have : ¬ y < x := by simpa using h2
    simpa [this] using h3
def foldM (mx : Bool) (l : List V) : IntKind → Int → (V → Bool) → Bool := List.rec (motive := fun _ => IntKind → Int → (V → Bool) → Bool) (fun k x K => K (.int k x)) (fun y _ ih k x K => onInt y fun _ y => mxK mx x y fun x => ih k x K) l
theorem foldM_one {P : Program} {m : M} {w : World} (mx : Bool) : ∀ {l : List V} {l' : List Value} (r : LRel m l l') {k : IntKind} {x : Int} {K : V → Bool}, foldM mx l k x K = true →
    One P m w (l'.foldlM (fun a b => if mx then Builtin.max2 a b else Builtin.min2 a b) (.int k x)) K
  | _, _, .nil, k, x, K, h => ⟨_, _, by simp, .int k x, h⟩
  | _, _, .cons y y' l l' ry r, k, x, K, h => by
    obtain ⟨k', n, rfl, h1⟩ := onInt_inv (show onInt y _ = true from h)
    cases ry
    have h2 := mxK_inv h1
    obtain ⟨v, v', hr, rv, hK⟩ := foldM_one (P := P) (w := w) mx r h2
    refine ⟨v, v', ?_, rv, hK⟩
    cases mx <;> simpa [List.foldlM, Builtin.max2, Builtin.min2] using hr
end
end Go.Ev
namespace Go.Ev
noncomputable section

inductive Cv where | int (k : IntKind) | same | toS | toB
def cvT (P : Program) (s d : TypeId) : Option Cv := match P.underlying s, P.underlying d with
  | some _, some (.int k) => some (.int k)
  | some .string, some .string => some .same
  | some (.slice e), some .string => match P.underlying e with | some (.int .u8) => some .toS | _ => none
  | some .string, some (.slice e) => match P.underlying e with | some (.int .u8) => some .toB | _ => none
  | _, _ => none
def cvInt (x : V) (h : Hp) (K : V → Hp → Bool) (k : IntKind) : Bool := onInt x fun _ n => Int.rec (motive := fun _ => Bool) (fun m => wrapN k m fun v => K v h) (fun m => slowI k (.negSucc m) fun v => K v h) n
theorem cvInt_inv {x : V} {h : Hp} {K : V → Hp → Bool} {k : IntKind} (e : cvInt x h K k = true) : ∃ k' n, x = .int k' n ∧ K (.int k (k.wrap n)) h = true := by
  obtain ⟨k', n, rfl, h1⟩ := onInt_inv e
  cases n with
  | ofNat n => exact ⟨k', _, rfl, wrapN_inv h1⟩
  | negSucc n => exact ⟨k', _, rfl, slowI_inv h1⟩
theorem cv_int {P : Program} {w : World} {s d : TypeId} {u : TypeDesc} {k k' : IntKind} {n : Int} (hs : P.underlying s = some u) (hd : P.underlying d = some (.int k)) : (convert s d (.int k' n)).run P w = .ok (.int k (k.wrap n)) w := by
  cases u <;> simp [convert, run_underlying hs, run_underlying hd, Conv.intToInt]
theorem cv_same {P : Program} {w : World} {s d : TypeId} {x : ByteArray} (hs : P.underlying s = some .string) (hd : P.underlying d = some .string) : (convert s d (.string x)).run P w = .ok (.string x) w := by
  simp [convert, run_underlying hs, run_underlying hd]

def isU8 (k : IntKind) : Bool := match k with | .u8 => true | _ => false
def bytesOf (l : List V) : (List Nat → Bool) → Bool := List.rec (motive := fun _ => (List Nat → Bool) → Bool) (fun K => K [])
  (fun v _ ih K => onInt v fun k n => grd (isU8 k) (Int.rec (motive := fun _ => Bool) (fun n => grd (Nat.blt n 256) (ih fun l => K (n :: l))) (fun _ => false) n)) l
theorem bytesOf_inv {m : M} : ∀ {l : List V} {l' : List Value} (r : LRel m l l') {K : List Nat → Bool}, bytesOf l K = true →
    ∃ ns : List Nat, l' = ns.map (fun n => Value.int .u8 (Int.ofNat n)) ∧ (∀ n ∈ ns, n < 256) ∧ K ns = true
  | _, _, .nil, K, h => ⟨[], rfl, by simp, h⟩
  | _, _, .cons v v' l l' rv r, K, h => by
    obtain ⟨k, n, rfl, h1⟩ := onInt_inv (show onInt v _ = true from h)
    obtain ⟨h2, h3⟩ := grd_inv h1
    have hk : k = .u8 := by cases k <;> first | rfl | cases h2
    subst hk
    cases rv
    cases n with
    | negSucc n => cases h3
    | ofNat n =>
      obtain ⟨h4, h5⟩ := grd_inv (show grd (Nat.blt n 256) _ = true from h3)
      obtain ⟨ns, rfl, hlt, hK⟩ := bytesOf_inv r h5
      refine ⟨n :: ns, rfl, fun x hx => ?_, hK⟩
      rcases List.mem_cons.1 hx with rfl | hx
      · exact Nat.of_blt h4
      · exact hlt x hx
theorem pushed (ns : List Nat) (h : ∀ n ∈ ns, n < 256) : ((ns.map Int.ofNat).foldl (fun r n => r.push (UInt8.ofNat n.toNat)) ByteArray.empty).data.toList.map UInt8.toNat = ns := by
  rw [foldl_push_bytes]
  have e : ByteArray.empty.data = #[] := rfl
  rw [e]
  simp only [Array.empty_append, List.map_map]
  conv => rhs; rw [← List.map_id ns]
  apply List.map_congr_left
  intro n hn
  have := h n hn
  simp [UInt8.toNat_ofNat']
  omega
theorem cv_toS {P : Program} {G : Fr} {m : M} {h : Hp} {w : World} (r : HRel G m h w) {s d e : TypeId} (hs : P.underlying s = some (.slice e)) (he : P.underlying e = some (.int .u8)) (hd : P.underlying d = some .string)
    {b : BId} {ro : Bool} {cs : List V} (hb : h.at b = some (.cells ro cs)) {off : Nat} {a : Addr} (ra : PRel m b off a) {len c : Nat} (hl : len ≤ (cs.drop off).length) {K : List Nat → Bool} (hK : bytesOf ((cs.drop off).take len) K = true) :
    ∃ l str, (convert s d (.slice (some a) len c)).run P w = .ok (.string str) w ∧ str.data.toList.map UInt8.toNat = l ∧ K l = true := by
  obtain ⟨l', rl, _, _, _, hr⟩ := r.row P hb ra (take_len hl)
  obtain ⟨ns, rfl, hlt, hK⟩ := bytesOf_inv rl hK
  refine ⟨ns, _, ?_, pushed ns hlt, hK⟩
  rw [run_convert_bytes_string w s d e _ _ _ hs he hd]
  apply run_bytesToString
  rw [hr, List.map_map]; rfl
end
end Go.Ev
namespace Go.Ev
noncomputable section

/-- a new block of cells, of which the first ones are known, and of which none is frozen -/
theorem HRel.row_newF {G : Fr} {m : M} {h : Hp} {w : World} (r : HRel G m h w) {cs : List V} {l rest : List Value} (rl : LRel m cs l) (hf : Flat l) (t : TypeId) (f : Nat × Nat) (hfz : ∀ i, i < (l ++ rest).length → ¬ (f.1 ≤ i ∧ i < f.2)) {K : BId → Hp → Bool} (e : newK h (.cells false cs) K = true) :
    ∃ m' h', Ext m h m' h' ∧ m' h.nx = .live w.heap.size 0 (l ++ rest).length ∧ HRel G m' h' (w.alloc (.cells (l ++ rest).toArray t f)) ∧ K h.nx h' = true := by
  obtain ⟨y, hy, hK⟩ := newK_inv e
  have hun : m h.nx = .un := r.nx _ (Nat.le_refl _)
  have hle : Le m (m.set h.nx (.live w.heap.size 0 (l ++ rest).length)) := M.le_set hun
  have hc : CsRel m 0 cs (l ++ rest).toArray := by
    intro i v hv
    obtain ⟨v', a, b⟩ := rl.get hv
    refine ⟨v', ?_, b, hf v' (List.mem_of_getElem? a)⟩
    have hi : i < l.length := by
      rcases Nat.lt_or_ge i l.length with h | h
      · exact h
      · rw [List.getElem?_eq_none h] at a; cases a
    simp [List.getElem?_append_left hi, a]
  obtain ⟨h1, h2⟩ := r.new hy (base := 0) (sz := (l ++ rest).length) (x := .cells false cs) (o := .cells (l ++ rest).toArray t f) ⟨(l ++ rest).toArray, t, f, rfl, by simp, fun _ i hi => hfz i hi, hc.mono hle⟩
  exact ⟨_, _, Ext.new hy h2, by simp, h1, hK⟩
theorem freeze_alloc (w : World) (c : Array Value) (t : TypeId) (n : Nat) : (w.alloc (.cells c t)).freeze ⟨w.heap.size, n, none⟩ 1 = w.alloc (.cells c t (n, n + 1)) := by
  unfold World.freeze World.alloc
  simp only [Nat.one_ne_zero, if_false]
  congr 1
  apply Array.ext
  · simp
  · intro i h1 h2
    simp only [Array.getElem_modify, Array.getElem_push]
    by_cases hi : i < w.heap.size
    · have : w.heap.size ≠ i := by omega
      simp [hi, this]
    · have : w.heap.size = i := by simp at h1; omega
      simp [this]
theorem shape_alloc (w : World) (c : Array Value) (t : TypeId) : (w.alloc (.cells c t)).shape? w.heap.size = some (t, c.size) := by
  have e : (w.alloc (.cells c t)).heap[w.heap.size]? = some (.cells c t) := by
    show (w.heap.push _)[w.heap.size]? = _
    simp
  simp only [World.shape?, e]

theorem toB_run {P : Program} {w : World} {s d e : TypeId} (hs : P.underlying s = some .string) (hd : P.underlying d = some (.slice e)) (he : P.underlying e = some (.int .u8)) (x : ByteArray) :
    ∃ cap rest, x.size ≤ cap ∧ rest.length = cap - x.size ∧ (convert s d (.string x)).run P w =
      .ok (.slice (some ⟨w.heap.size, 0, none⟩) x.size cap) (w.drew.alloc (.cells ((x.data.toList.map fun b : UInt8 => Value.int .u8 b.toNat) ++ rest).toArray e (cap, cap + 1))) := by
  refine ⟨grownCap w x.size 0 e, List.replicate (grownCap w x.size 0 e - x.size) (Value.int .u8 0), grownCap_ge w _ _ e, by simp, ?_⟩
  have hge := grownCap_ge w x.size 0 e
  have ea : ((x.data.toList.map fun b : UInt8 => Value.int .u8 b.toNat) ++ List.replicate (grownCap w x.size 0 e - x.size) (Value.int .u8 0)).toArray = (x.data.map fun b : UInt8 => Value.int .u8 b.toNat) ++ Array.replicate (grownCap w x.size 0 e - x.size) (Value.int .u8 0) := by
    apply Array.toList_inj.1; simp
  have es : ((x.data.map fun b : UInt8 => Value.int .u8 b.toNat) ++ Array.replicate (grownCap w x.size 0 e - x.size) (Value.int .u8 0)).size = grownCap w x.size 0 e := by
    simp only [Array.size_append, Array.size_map, Array.size_replicate]
    have : x.data.size = x.size := rfl
    omega
  have h1 := shape_alloc w.drew ((x.data.map fun b : UInt8 => Value.int .u8 b.toNat) ++ Array.replicate (grownCap w x.size 0 e - x.size) (Value.int .u8 0)) e
  have h2 := freeze_alloc w.drew ((x.data.map fun b : UInt8 => Value.int .u8 b.toNat) ++ Array.replicate (grownCap w x.size 0 e - x.size) (Value.int .u8 0)) e (grownCap w x.size 0 e)
  rw [es] at h1
  have e0 : w.drew.heap.size = w.heap.size := rfl
  rw [e0] at h1
  rw [ea, ← h2]
  unfold grownCap at h1 h2 ⊢
  simp [convert, run_underlying hs, run_underlying hd, run_underlying he, Conv.stringToBytes, Question.forced, newRow, markStringish]
  rw [h1]
  simp

def cvSame (x : V) (h : Hp) (K : V → Hp → Bool) : Bool := onStr x fun l => K (.str l) h
def cvToS (x : V) (h : Hp) (K : V → Hp → Bool) : Bool := onSlish x (fun b off len _ => onCells h b fun _ cs => dropK cs off fun l => takeK l len fun l => bytesOf l fun l => K (.str l) h) (K (.str []) h) (K (.str []) h)
def cvToB (x : V) (h : Hp) (K : V → Hp → Bool) : Bool := onStr x fun l => bytesV l fun cs => lnK l 0 fun n => newK h (.cells false cs) fun b h => K (.sl b 0 n (.op 1)) h
def convertK (P : Program) (s d : TypeId) (x : V) (h : Hp) (K : V → Hp → Bool) : Bool := optK (cvT P s d) fun c => Cv.rec (motive := fun _ => Bool) (cvInt x h K) (cvSame x h K) (cvToS x h K) (cvToB x h K) c
theorem convertK_many {P : Program} {G : Fr} {m : M} {h : Hp} {w : World} (r : HRel G m h w) {x : V} {x' : Value} (rx : VRel m x x') {s d : TypeId} {K : V → Hp → Bool} (e : convertK P s d x h K = true) :
    Many P G m h w (convert s d x') K := by
  obtain ⟨c, hc, h1⟩ := optK_inv e
  unfold cvT at hc
  split at hc
  · rename_i u k hs hd
    cases hc
    obtain ⟨k', n, rfl, h2⟩ := cvInt_inv (show cvInt x h K k = true from h1)
    cases rx
    exact One.many r ⟨_, _, cv_int hs hd, .int k _, h2⟩
  · rename_i hs hd
    cases hc
    obtain ⟨l, rfl, h2⟩ := onStr_inv (show onStr x _ = true from h1)
    cases rx with
    | str _ t hl => exact One.many r ⟨_, _, cv_same hs hd, .str l t hl, h2⟩
  · rename_i el hs hd
    split at hc
    · rename_i he
      cases hc
      rcases onSlish_inv (show onSlish x _ _ _ = true from h1) with ⟨b, off, len, cap, rfl, h2⟩ | ⟨rfl, h2⟩ | ⟨rfl, h2⟩
      · obtain ⟨ro, cs, hb, h3⟩ := onCells_inv h2
        obtain ⟨h4, h5⟩ := dropK_inv h3
        obtain ⟨h6, h7⟩ := takeK_inv h5
        cases rx with
        | sl _ _ _ _ a c ra hl hc =>
          obtain ⟨l, str, hr, hstr, hK⟩ := cv_toS r hs he hd hb ra h6 h7 (c := c)
          exact One.many r ⟨_, _, hr, .str l str hstr, hK⟩
        | sl0 _ _ _ a ra =>
          refine One.many r ⟨_, .string ByteArray.empty, ?_, .str [] _ rfl, h7⟩
          rw [run_convert_bytes_string w s d el _ _ _ hs he hd]
          exact run_bytesToString w a 0 0 [] rfl
      · cases rx
        exact One.many r ⟨_, .string ByteArray.empty, run_convert_bytes_nil w s el hs he 0 0 d hd, .str [] _ rfl, h2⟩
      · cases rx with
        | emp a c =>
          refine One.many r ⟨_, .string ByteArray.empty, ?_, .str [] _ rfl, h2⟩
          rw [run_convert_bytes_string w s d el _ _ _ hs he hd]
          exact run_bytesToString w a 0 c [] rfl
    · cases hc
  · rename_i el hs hd
    split at hc
    · rename_i he
      cases hc
      obtain ⟨l, rfl, h2⟩ := onStr_inv (show onStr x _ = true from h1)
      have h3 := lnK_inv (bytesV_inv h2)
      cases rx with
      | str _ t hl =>
        have e1 : 0 + l.length = t.size := by rw [size_of_rel hl]; omega
        rw [e1] at h3
        obtain ⟨cap, rest, hcap, hrest, hr⟩ := toB_run (w := w) hs hd he t
        have hlen : ((t.data.toList.map fun b : UInt8 => Value.int .u8 b.toNat) ++ rest).length = cap := by
          rw [List.length_append, List.length_map, hrest, Array.length_toList]
          have : t.data.size = t.size := rfl
          omega
        have rl := bytes_rel m t.data.toList
        rw [hl] at rl
        obtain ⟨m', h', x1, hm', r', hK⟩ := r.drew.row_newF (rest := rest) rl (bytes_flat _) el (cap, cap + 1) (fun i hi => by rw [hlen] at hi; simp; omega) h3
        rw [hlen] at hm'
        refine ⟨_, _, h', _, m', hr, x1, .sl _ _ _ _ _ _ ?_ hcap ?_, r', hK⟩
        · unfold PRel; rw [hm']
        · unfold CRel; simp only [hm']; omega
    · cases hc
  · cases hc
end
end Go.Ev
namespace Go.Ev
noncomputable section

theorem newVar_many {P : Program} {G : Fr} {m : M} {h : Hp} {w : World} (r : HRel G m h w) {v : V} {v' : Value} (rv : VRel m v v') (hn : noTup v) (t : TypeId) {K : BId → Hp → Bool} (e : newK h (.cells false (cellsV v)) K = true) :
    ∃ b a h' w' m', (newVar t v').run P w = .ok a w' ∧ Ext m h m' h' ∧ VRel m' (.ptr b 0) (.pointer (some a)) ∧ HRel G m' h' w' ∧ K b h' = true := by
  obtain ⟨m', h', x1, hm', r', hK⟩ := r.row_new (rest := []) rv.cells (rv.flat hn) t e
  refine ⟨h.nx, ⟨w.heap.size, 0, none⟩, h', w.alloc (.cells v'.cells t), m', ?_, x1, .ptr _ _ _ ?_, by simpa using r', hK⟩
  · simp [newVar, newRow]
  · unfold PRel; rw [hm']
def allocK (P : Program) (t : TypeId) (h : Hp) (K : V → Hp → Bool) : Bool := optK (zeroT P t) fun z => cellsC z fun cs => newK h (.cells false cs) fun b h => K (.ptr b 0) h
theorem allocK_many {P : Program} {G : Fr} {m : M} {h : Hp} {w : World} (r : HRel G m h w) {t : TypeId} {K : V → Hp → Bool} (e : allocK P t h K = true) : Many P G m h w (Instr.alloc t true (.tuple #[])) K := by
  obtain ⟨z, hz, h1⟩ := optK_inv e
  obtain ⟨z', hr, hrun⟩ := zeroT_run hz
  obtain ⟨hn, h2⟩ := cellsC_inv h1
  obtain ⟨b, a, h', w', m', hv, x1, rp, r', hK⟩ := newVar_many (P := P) r (hr m) hn t h2
  exact ⟨_, _, h', w', m', by simp [Instr.alloc, hrun, hv], x1, rp, r', hK⟩
def boxK (v : V) (h : Hp) (K : V → Hp → Bool) : Bool := cellsC v fun cs => newK h (.cells false cs) fun b h => K (.ptr b 0) h
theorem boxK_many {P : Program} {G : Fr} {m : M} {h : Hp} {w : World} (r : HRel G m h w) {v : V} {v' : Value} (rv : VRel m v v') (t : TypeId) {K : V → Hp → Bool} (e : boxK v h K = true) : Many P G m h w (Instr.box t v') K := by
  obtain ⟨hn, h2⟩ := cellsC_inv e
  obtain ⟨b, a, h', w', m', hv, x1, rp, r', hK⟩ := newVar_many (P := P) r rv hn t h2
  exact ⟨_, _, h', w', m', by simp [Instr.box, hv], x1, rp, r', hK⟩

def ifcT (P : Program) (t : TypeId) : Bool := match P.underlying t with | some (.interface _) => false | some _ => true | none => false
theorem makeInterface_run {P : Program} {w : World} {t : TypeId} (h : ifcT P t = true) (v : Value) : (Instr.makeInterface t v).run P w = .ok (.iface t v) w := by
  unfold ifcT at h
  split at h
  · cases h
  · rename_i u hno hu
    cases u <;> first | (exact absurd rfl (hno _)) | simp [Instr.makeInterface, run_underlying hu]
  · cases h
def mapTy (P : Program) (t : TypeId) : Bool := match P.underlying t with | some (.map _ _) => true | _ => false
theorem HRel.map_new {G : Fr} {m : M} {h : Hp} {w : World} (r : HRel G m h w) {K : BId → Hp → Bool} (e : newK h (.map 0 [] []) K = true) :
    ∃ m' h', Ext m h m' h' ∧ VRel m' (.mp h.nx) (.map (some w.heap.size)) ∧ HRel G m' h' (w.alloc (.map #[] 0)) ∧ K h.nx h' = true := by
  obtain ⟨y, hy, hK⟩ := newK_inv e
  obtain ⟨h1, h2⟩ := r.new hy (base := 0) (sz := 0) (x := .map 0 [] []) (o := .map #[] 0) ⟨#[], rfl, .nil, rfl⟩
  exact ⟨_, _, Ext.new hy h2, .mp _ _ (by unfold MRel; simp), h1, hK⟩
end
end Go.Ev
namespace Go.Ev
noncomputable section

/-- the first cells of what is copied, so many elements of it at most -/
def srcN (size lim : Nat) (x : V) (h : Hp) (K : Nat → List V → Bool) : Bool := onSrc x (fun b off len _ => onCells h b fun _ cs => dropK cs off fun l => fN (Nat.min len lim) fun n => fN (Nat.mul n size) fun k => takeK l k fun l => K n l) (K 0 []) (K 0 [])
  (fun l => grd (Nat.beq size 1) (lnK l 0 fun len => fN (Nat.min len lim) fun n => takeK l n fun l => bytesV l fun cs => K n cs))
theorem srcN_inv {P : Program} {G : Fr} {m : M} {h : Hp} {w : World} (r : HRel G m h w) {x : V} {x' : Value} (rx : VRel m x x') {size lim : Nat} {K : Nat → List V → Bool} (e : srcN size lim x h K = true) :
    ∃ L n new new', (∀ w, (Builtin.lenOf x').run P w = .ok L w) ∧ n = Nat.min L lim ∧ LRel m new new' ∧ Flat new' ∧ new'.length = n * size ∧
      (Builtin.firstCells size n x').run P w = .ok new'.toArray w ∧ K n new = true := by
  have z0 : ∀ a c, (Builtin.firstCells size 0 (.slice (some a) 0 c)).run P w = .ok #[] w := fun a c => by simp [Builtin.firstCells, loadCells, loadCellsFrom]
  have fn : Flat [] := by intro x hx; cases hx
  have m0 : ∀ n, Nat.min 0 n = 0 := fun n => Nat.min_eq_left (Nat.zero_le n)
  rcases onSrc_inv e with ⟨b, off, len, cap, rfl, h1⟩ | ⟨rfl, h1⟩ | ⟨rfl, h1⟩ | ⟨l, rfl, h1⟩
  · obtain ⟨ro, cs, hb, h2⟩ := onCells_inv h1
    obtain ⟨h3, h4⟩ := dropK_inv h2
    rw [fN_eq, fN_eq] at h4
    obtain ⟨h5, h6⟩ := takeK_inv h4
    cases rx with
    | sl _ _ _ _ a c ra hl hc =>
      obtain ⟨l', rl, hf, hlen, hk, hr⟩ := r.row P hb ra (take_len h5)
      exact ⟨len, _, _, l', fun w => rfl, rfl, rl, hf, hlen, by simpa [Builtin.firstCells] using hr, h6⟩
    | sl0 _ _ _ a ra =>
      have e0 : Nat.mul (Nat.min 0 lim) size = 0 := by rw [m0]; exact Nat.zero_mul size
      rw [e0, m0] at h6
      exact ⟨0, 0, [], [], fun w => rfl, (m0 lim).symm, .nil, fn, by simp, z0 a 0, by simpa using h6⟩
  · cases rx
    exact ⟨0, 0, [], [], fun w => rfl, (m0 lim).symm, .nil, fn, by simp, by simp [Builtin.firstCells], h1⟩
  · cases rx with
    | emp a c => exact ⟨0, 0, [], [], fun w => rfl, (m0 lim).symm, .nil, fn, by simp, z0 a c, h1⟩
  · obtain ⟨h2, h3⟩ := grd_inv h1
    have h2 : size = 1 := Nat.eq_of_beq_eq_true h2
    subst h2
    have h4 := lnK_inv h3
    rw [fN_eq] at h4
    obtain ⟨h5, h6⟩ := takeK_inv h4
    have h7 := bytesV_inv h6
    cases rx with
    | str _ s hl =>
      have hs := size_of_rel hl
      have e1 : 0 + l.length = s.size := by omega
      rw [e1] at h7 h5
      have hd : (s.extract 0 (Nat.min s.size lim)).data.toList.map UInt8.toNat = l.take (Nat.min s.size lim) := by
        rw [extract_toNat, hl]; simp
      refine ⟨s.size, Nat.min s.size lim, _, (s.extract 0 (Nat.min s.size lim)).data.toList.map fun b : UInt8 => .int .u8 b.toNat, fun w => rfl, rfl, by rw [← hd]; exact bytes_rel m _, bytes_flat _, ?_, ?_, h7⟩
      · have := congrArg List.length hd
        rw [List.length_map] at this
        rw [List.length_map, this, take_len h5, Nat.mul_one]
      · show Result.ok ((s.extract 0 (Nat.min s.size lim)).data.map fun b : UInt8 => Value.int .u8 b.toNat) w = _
        congr 1
        apply Array.toList_inj.1
        simp

def elT (P : Program) (t : TypeId) : Option Nat := match P.underlying t with | some (.slice e) => szT P e | _ => none
theorem elT_eq {P : Program} {t : TypeId} {n : Nat} (h : elT P t = some n) : ∃ e, P.underlying t = some (.slice e) ∧ szT P e = some n := by
  unfold elT at h
  split at h
  · rename_i e hu; exact ⟨e, hu, h⟩
  · cases h
def copyTo (es : Nat) (s : V) (h : Hp) (K : V → Hp → Bool) (b : BId) (off len : Nat) (_ : Cap) : Bool := srcN es len s h fun n new => onCells h b fun ro cs => grd (not ro) (putsK new cs off fun cs => setB h b (some (.cells false cs)) fun h => K (.int .i64 (.ofNat n)) h)
def copyNo (es : Nat) (s : V) (h : Hp) (K : V → Hp → Bool) : Bool := srcN es 0 s h fun _ _ => K (.int .i64 (.ofNat 0)) h
def copyK (P : Program) (t : TypeId) (d s : V) (h : Hp) (K : V → Hp → Bool) : Bool := optK (elT P t) fun es => onSlish d (copyTo es s h K) (copyNo es s h K) (copyNo es s h K)
theorem copyK_many {P : Program} {G : Fr} {m : M} {h : Hp} {w : World} (r : HRel G m h w) {d s : V} {d' s' : Value} (rd : VRel m d d') (rs : VRel m s s') {ts : Array TypeId} {t : TypeId} (ht : ts[0]? = some t) (ty : TypeId) {K : V → Hp → Bool}
    (e : copyK P t d s h K = true) : Many P G m h w (Builtin.copy_ ts ty #[d', s']) K := by
  obtain ⟨es, hes, h1⟩ := optK_inv e
  obtain ⟨el, hu, hs⟩ := elT_eq hes
  have m0 : ∀ n, Nat.min n 0 = 0 := fun n => Nat.min_eq_right (Nat.zero_le n)
  rcases onSlish_inv h1 with ⟨b, off, len, cap, rfl, h2⟩ | ⟨rfl, h2⟩ | ⟨rfl, h2⟩
  · obtain ⟨L, n, new, new', hL, hn, rn, fn, ln, hf, h3⟩ := srcN_inv (P := P) r rs (show srcN es len s h _ = true from h2)
    obtain ⟨ro, cs, hb, h4⟩ := onCells_inv h3
    obtain ⟨hro, h5⟩ := grd_inv h4
    have hro : ro = false := by cases ro <;> first | rfl | cases hro
    subst hro
    obtain ⟨h6, h7⟩ := putsK_inv h5
    subst hn
    cases rd with
    | sl _ _ _ _ a c ra hl hc =>
      obtain ⟨w', hst, r'⟩ := r.puts P hb ra rn fn h6
      exact ⟨_, _, _, w', m, by simp [Builtin.copy_, ht, run_underlying hu, hL, szT_run hs, hf, hst]; rfl, Ext.upd _ hb, .int .i64 _, r', setB_inv h7⟩
    | sl0 _ _ _ a ra =>
      have e0 : new' = [] := List.length_eq_zero_iff.1 (by rw [ln, m0]; simp)
      subst e0
      have e1 : new = [] := List.length_eq_zero_iff.1 (by rw [rn.length]; rfl)
      subst e1
      have hK : K (.int .i64 (.ofNat 0)) (h.set b (some (.cells false (cs.take off ++ ([] ++ cs.drop (off + 0)))))) = true := by have := setB_inv h7; rw [m0] at this; exact this
      have hf0 := hf
      rw [m0] at hf0
      obtain ⟨B, base, sz, c, tt, f, hm, hw, hsz, hfr, hc⟩ := r.cells hb
      have r' : HRel G m (h.set b (some (.cells false (cs.take off ++ ([] ++ cs.drop (off + 0)))))) w := r.upd hb rfl hm (But.refl hw) ⟨c, tt, f, rfl, hsz, hfr, by simpa using hc⟩
      exact ⟨_, _, _, w, m, by simp [Builtin.copy_, ht, run_underlying hu, hL, szT_run hs, m0, hf0, storeCells]; rfl, Ext.upd _ hb, .int .i64 _, r', hK⟩
  · obtain ⟨L, n, new, new', hL, hn, rn, fn, ln, hf, h3⟩ := srcN_inv (P := P) r rs (show srcN es 0 s h _ = true from h2)
    rw [m0] at hn
    subst hn
    cases rd
    exact One.many r ⟨_, _, by simp [Builtin.copy_, ht, run_underlying hu, hL, szT_run hs, hf, m0]; rfl, .int .i64 _, h3⟩
  · obtain ⟨L, n, new, new', hL, hn, rn, fn, ln, hf, h3⟩ := srcN_inv (P := P) r rs (show srcN es 0 s h _ = true from h2)
    rw [m0] at hn
    subst hn
    have e0 : new' = [] := List.length_eq_zero_iff.1 (by rw [ln]; simp)
    subst e0
    cases rd with
    | emp a c => exact One.many r ⟨_, _, by simp [Builtin.copy_, ht, run_underlying hu, hL, szT_run hs, hf, m0, storeCells]; rfl, .int .i64 _, h3⟩
end
end Go.Ev
namespace Go.Ev
noncomputable section

theorem LRel.replicate {m : M} {l : List V} {l' : List Value} (r : LRel m l l') : ∀ n : Nat, LRel m (List.replicate n l).flatten (List.replicate n l').flatten
  | 0 => .nil
  | n + 1 => by
    rw [List.replicate_succ, List.replicate_succ, List.flatten_cons, List.flatten_cons]
    exact (LRel.replicate r n).append r
theorem Flat.replicate {l : List Value} (h : Flat l) (n : Nat) : Flat (List.replicate n l).flatten := by
  intro x hx
  obtain ⟨k, hk, hx2⟩ := List.mem_flatten.1 hx
  have := List.eq_of_mem_replicate hk
  subst this
  exact h x hx2
theorem range_get (z : Array Value) : (List.range z.size).map (fun i => z[i % z.size]!) = z.toList := by
  apply List.ext_getElem
  · simp
  · intro i h1 h2
    have hi : i < z.size := by simpa using h1
    simp [Nat.mod_eq_of_lt hi, hi]
theorem zeroCells_eq (z : Array Value) : ∀ n : Nat, (Builtin.zeroCells z n).toList = (List.replicate n z.toList).flatten
  | 0 => by simp [Builtin.zeroCells]
  | n + 1 => by
    have ih := zeroCells_eq z n
    simp only [Builtin.zeroCells, Array.toList_map, Array.toList_range] at ih ⊢
    have e : (n + 1) * z.size = z.size + n * z.size := by rw [Nat.add_mul]; omega
    rw [e, List.range_add, List.map_append, range_get, List.replicate_succ, List.flatten_cons, ← ih, List.map_map]
    congr 1
    apply List.map_congr_left
    intro i _
    simp

def nilT : V := .tup []
def elemT (P : Program) (t : TypeId) : Option TypeId := match P.underlying t with | some (.slice e) => some e | _ => none
theorem elemT_eq {P : Program} {t e : TypeId} (h : elemT P t = some e) : P.underlying t = some (.slice e) := by
  unfold elemT at h
  split at h
  · rename_i e' hu; cases h; exact hu
  · cases h
def clearSl (P : Program) (t : TypeId) (h : Hp) (K : V → Hp → Bool) (b : BId) (off n : Nat) (_ : Cap) : Bool := alt (Nat.beq n 0) (K nilT h) (optK (elemT P t) fun e => optK (zeroT P e) fun z => onCells h b fun ro cs => grd (not ro) (cellsC z fun zs => replK zs n fun zs => putsK zs cs off fun cs => setB h b (some (.cells false cs)) fun h => K nilT h))
def onClear (v : V) (f : BId → Nat → Nat → Cap → Bool) (n : Bool) (g : BId → Bool) : Bool := V.rec (motive_1 := fun _ => Bool) (motive_2 := fun _ => Bool) (fun _ _ => false) (fun _ => false) (fun _ => false) (fun _ _ => false) false f n n g n (fun _ _ _ _ _ => false) false (fun _ _ _ => false) false (fun _ _ => false) (fun _ _ => false) false (fun _ _ _ _ => false) v
theorem onClear_inv {v : V} {f : BId → Nat → Nat → Cap → Bool} {n : Bool} {g : BId → Bool} (h : onClear v f n g = true) :
    (∃ b off len cap, v = .sl b off len cap ∧ f b off len cap = true) ∨ ((v = .nils ∨ v = .emp ∨ v = .nilm) ∧ n = true) ∨ ∃ b, v = .mp b ∧ g b = true := by
  cases v <;> first | exact .inl ⟨_, _, _, _, rfl, h⟩ | exact .inr (.inl ⟨.inl rfl, h⟩) | exact .inr (.inl ⟨.inr (.inl rfl), h⟩) | exact .inr (.inl ⟨.inr (.inr rfl), h⟩) | exact .inr (.inr ⟨_, rfl, h⟩) | cases h
def clearMp (h : Hp) (K : V → Hp → Bool) (b : BId) : Bool := onMap h b fun ver _ _ => setB h b (some (.map ver [] [])) fun h => K nilT h
def clearK (P : Program) (t : TypeId) (x : V) (h : Hp) (K : V → Hp → Bool) : Bool := optK (P.underlying t) fun _ => onClear x (clearSl P t h K) (K nilT h) (clearMp h K)
theorem run_setMap {P : Program} {w : World} {R : Nat} {l : Array MapEntry} {c : Nat} {o' : Obj} (hw : w.heap[R]? = some (.map l c)) : ∃ w', (setObj R o').run P w = .ok () w' ∧ But w w' R o' := by
  have hR : R < w.heap.size := by
    rcases Nat.lt_or_ge R w.heap.size with h | h
    · exact h
    · rw [Array.getElem?_eq_none h] at hw; cases hw
  refine ⟨{ w with heap := w.heap.setIfInBounds R o' }, ?_, But.setObj w R o' hR⟩
  simp only [setObj, Sem.run, hw]
theorem clearK_many {P : Program} {G : Fr} {m : M} {h : Hp} {w : World} (r : HRel G m h w) {x : V} {x' : Value} (rx : VRel m x x') {ts : Array TypeId} {t : TypeId} (ht : ts[0]? = some t) (ty : TypeId) {K : V → Hp → Bool}
    (e : clearK P t x h K = true) : Many P G m h w (Builtin.clear_ ts ty #[x']) K := by
  have rn : ∀ m, VRel m nilT (.tuple #[]) := fun m => VRel.tup [] [] .nil
  obtain ⟨u, hu, h1⟩ := optK_inv e
  rcases onClear_inv h1 with ⟨b, off, len, cap, rfl, h2⟩ | ⟨hx, h2⟩ | ⟨b, rfl, h2⟩
  · rcases alt_inv (show alt (Nat.beq len 0) _ _ = true from h2) with ⟨h3, h4⟩ | ⟨h3, h4⟩
    · have h3 : len = 0 := Nat.eq_of_beq_eq_true h3
      subst h3
      cases rx with
      | sl _ _ _ _ a c ra hl hc => exact One.many r ⟨_, _, by simp [Builtin.clear_, ht, run_underlying hu], rn m, h4⟩
      | sl0 _ _ _ a ra => exact One.many r ⟨_, _, by simp [Builtin.clear_, ht, run_underlying hu], rn m, h4⟩
    · obtain ⟨el, hel, h5⟩ := optK_inv h4
      obtain ⟨z, hz, h6⟩ := optK_inv h5
      obtain ⟨ro, cs, hb, h7⟩ := onCells_inv h6
      obtain ⟨hro, h8⟩ := grd_inv h7
      have hro : ro = false := by cases ro <;> first | rfl | cases hro
      subst hro
      obtain ⟨hnt, h9⟩ := cellsC_inv h8
      obtain ⟨h10, h11⟩ := putsK_inv (replK_inv h9)
      obtain ⟨z', rz, hzr⟩ := zeroT_run hz
      have hue := elemT_eq hel
      rw [hue] at hu
      cases hu
      cases rx with
      | sl0 _ _ _ a ra => simp at h3
      | sl _ _ _ _ a c ra hl hc =>
        obtain ⟨w', hst, r'⟩ := r.puts P hb ra ((rz m).cells.replicate len) (((rz m).flat hnt).replicate len) h10
        rw [← zeroCells_eq] at hst
        have hne : len ≠ 0 := fun e => by subst e; simp at h3
        obtain ⟨len, rfl⟩ : ∃ k, len = k + 1 := ⟨len - 1, by omega⟩
        exact ⟨_, _, _, w', m, by simp [Builtin.clear_, ht, run_underlying hue, hzr, hst], Ext.upd _ hb, rn m, r', setB_inv h11⟩
  · rcases hx with rfl | rfl | rfl
    · cases rx; exact One.many r ⟨_, _, by simp [Builtin.clear_, ht, run_underlying hu], rn m, h2⟩
    · cases rx with
      | emp a c => exact One.many r ⟨_, _, by simp [Builtin.clear_, ht, run_underlying hu], rn m, h2⟩
    · cases rx; exact One.many r ⟨_, _, by simp [Builtin.clear_, ht, run_underlying hu], rn m, h2⟩
  · obtain ⟨clock, es, st, hb, h3⟩ := onMap_inv (show onMap h b _ = true from h2)
    cases rx with
    | mp _ R hr =>
      obtain ⟨l, base, sz, hm, hw, he, hbn⟩ := r.mapOf hb hr
      obtain ⟨w', hst, hbut⟩ := run_setMap (P := P) (o' := .map #[] clock) hw
      have r' := r.upd (x' := .map clock [] []) hb rfl hm hbut ⟨#[], rfl, .nil, rfl⟩
      exact ⟨_, _, _, w', m, by simp [Builtin.clear_, ht, run_underlying hu, run_getMap hw, hst], Ext.upd _ hb, rn m, r', setB_inv h3⟩
end
end Go.Ev
namespace Go.Ev
noncomputable section

inductive KT where | int | str
def mapT (P : Program) (t : TypeId) : Option (KT × TypeId) := match P.underlying t with
  | some (.map kt e) => match P.underlying kt with
    | some (.int _) => some (.int, e)
    | some .string => some (.str, e)
    | _ => none
  | _ => none
def isKey : KT → TypeDesc → Bool
  | .int, .int _ => true
  | .str, .string => true
  | _, _ => false
theorem mapT_eq {P : Program} {t e : TypeId} {k : KT} (h : mapT P t = some (k, e)) : ∃ kt u, P.underlying t = some (.map kt e) ∧ P.underlying kt = some u ∧ isKey k u = true := by
  unfold mapT at h
  split at h
  · rename_i kt el hu
    split at h
    · rename_i ik hk; cases h; exact ⟨kt, _, hu, hk, rfl⟩
    · rename_i hk; cases h; exact ⟨kt, _, hu, hk, rfl⟩
    · cases h
  · cases h
def kindOk (k k' : IntKind) : Bool := decide (k = k')
def eqKeyI (k : IntKind) (a : Int) (y : V) (K : Bool → Bool) : Bool := onInt y fun k' b => grd (kindOk k k') (fB (eqI a b) K)
def eqKeyS (l : List Nat) (y : V) (K : Bool → Bool) : Bool := onStr y fun r => fB (eqL l r) K

def keyC (x : V) (f : IntKind → Int → Bool) (g : List Nat → Bool) : Bool := V.rec (motive_1 := fun _ => Bool) (motive_2 := fun _ => Bool) f (fun _ => false) g (fun _ _ => false) false (fun _ _ _ _ => false) false false (fun _ => false) false (fun _ _ _ _ _ => false) false (fun _ _ _ => false) false (fun _ _ => false) (fun _ _ => false) false (fun _ _ _ _ => false) x
theorem keyC_inv {x : V} {f : IntKind → Int → Bool} {g : List Nat → Bool} (h : keyC x f g = true) : (∃ k n, x = .int k n ∧ f k n = true) ∨ ∃ l, x = .str l ∧ g l = true := by
  cases x <;> first | exact .inl ⟨_, _, rfl, h⟩ | exact .inr ⟨_, rfl, h⟩ | cases h
/-- a key of its map's kind -/
def keyOk (kt : KT) (k : V) (x : Bool) : Bool := KT.rec (motive := fun _ => Bool) (onInt k fun _ _ => x) (onStr k fun _ => x) kt
def keyEq (x y : V) (K : Bool → Bool) : Bool := keyC x (fun k a => eqKeyI k a y K) (fun l => eqKeyS l y K)
theorem keyEq_inv {m : M} {kt : KT} {u : TypeDesc} (hk : isKey kt u = true) {x y : V} {x' y' : Value} (rx : VRel m x x') (ry : VRel m y y') {c : Bool} (ok : keyOk kt x c = true) {K : Bool → Bool} (h : keyEq x y K = true) :
    ∃ b, Instr.sameNow u x' y' = some b ∧ K b = true := by
  rcases keyC_inv h with ⟨k, n, rfl, h1⟩ | ⟨l, rfl, h1⟩
  · obtain ⟨k', n', rfl, h2⟩ := onInt_inv (show onInt y _ = true from h1)
    obtain ⟨h3, h4⟩ := grd_inv h2
    have h3 : k = k' := of_decide_eq_true h3
    subst h3
    rw [fB_eq, eqI_eq] at h4
    cases rx; cases ry
    cases kt with
    | str => cases ok
    | int => cases u <;> first | (cases hk; done) | exact ⟨_, by simp [Instr.sameNow], h4⟩
  · obtain ⟨r, rfl, h2⟩ := onStr_inv (show onStr y _ = true from h1)
    rw [fB_eq] at h2
    cases rx with
    | str _ s hs =>
      cases ry with
      | str _ s2 hs2 =>
        cases kt with
        | int => cases ok
        | str =>
          have he : eqL l r = (s == s2) := by
            have hb : (s == s2) = (s.data == s2.data) := by cases s; cases s2; rfl
            rw [eqL_eq, ← hs, ← hs2, map_toNat_inj, hb]
            rw [Bool.eq_iff_iff]; simp only [beq_iff_eq]
            exact ⟨fun e => Array.toList_inj.1 e, fun e => by rw [e]⟩
          rw [he] at h2
          cases u <;> first | (cases hk; done) | exact ⟨_, by simp [Instr.sameNow], h2⟩

def findE (k : V) (es : List (V × V)) : Nat → (Nat → V → Bool) → Bool → Bool := List.rec (motive := fun _ => Nat → (Nat → V → Bool) → Bool → Bool) (fun _ _ n => n)
  (fun e _ ih i f n => Prod.rec (motive := fun _ => Bool) (fun k' v => keyEq k k' fun b => alt b (f i v) (fN (Nat.add i 1) fun i => ih i f n)) e) es
theorem findE_inv {m : M} {kt : KT} {u : TypeDesc} (hk : isKey kt u = true) {x : V} {x' : Value} (rx : VRel m x x') {c : Bool} (ok : keyOk kt x c = true) {f : Nat → V → Bool} {n : Bool} :
    ∀ {es : List (V × V)} {l : List MapEntry} (r : ERel m es l) {i : Nat}, findE x es i f n = true →
      (Instr.findNow u x' l i = some none ∧ n = true) ∨ ∃ j v v', Instr.findNow u x' l i = some (some (i + j, v')) ∧ (∃ kv, es[j]? = some (kv, v)) ∧ (∃ e, l[j]? = some e ∧ e.val = v') ∧ VRel m v v' ∧ f (i + j) v = true
  | _, _, .nil, i, h => .inl ⟨rfl, h⟩
  | _, _, .cons k v e es l hkey hv t, i, h => by
    obtain ⟨b, h1, h2⟩ := keyEq_inv hk rx hkey ok (show keyEq x k _ = true from h)
    rcases alt_inv h2 with ⟨rfl, h3⟩ | ⟨rfl, h3⟩
    · exact .inr ⟨0, v, e.val, by simp [Instr.findNow, h1], ⟨k, rfl⟩, ⟨e, rfl, rfl⟩, hv, h3⟩
    · rw [fN_eq] at h3
      have h4 : findE x es (i + 1) f n = true := h3
      rcases findE_inv hk rx ok t h4 with ⟨h5, h6⟩ | ⟨j, v1, v2, h5, ⟨kv, h6⟩, ⟨e1, h7, h8⟩, h9, h10⟩
      · exact .inl ⟨by simp [Instr.findNow, h1, h5], h6⟩
      · have e1' : i + 1 + j = i + (j + 1) := by omega
        rw [e1'] at h5 h10
        exact .inr ⟨j + 1, v1, v2, by simp [Instr.findNow, h1, h5], ⟨kv, by simpa using h6⟩, ⟨e1, by simpa using h7, h8⟩, h9, h10⟩
end
end Go.Ev
namespace Go.Ev
noncomputable section

theorem checkKey_run {P : Program} {w : World} {kt : TypeId} {k : KT} {u : TypeDesc} (hu : P.underlying kt = some u) (hk : isKey k u = true) (empty : Bool) (v : Value) : (Instr.checkKey empty 10000 kt v).run P w = .ok () w := by
  unfold Instr.checkKey
  cases k <;> cases u <;> first | (cases hk; done) | simp [run_underlying hu]
theorem findKey_run {P : Program} {w : World} {kt : TypeId} {u : TypeDesc} (hu : P.underlying kt = some u) {k : Value} {l : List MapEntry} {r : Option (Nat × Value)} (h : Instr.findNow u k l 0 = some r) : (Instr.findKey kt k l).run P w = .ok r w := by
  simp [Instr.findKey, run_underlying hu, h]

def outL (ok : Bool) (v : V) (b : Bool) (K : V → Bool) : Bool := alt ok (K (.tup [v, .bool b])) (K v)
theorem outL_inv {m : M} {ok : Bool} {v : V} {v' : Value} (rv : VRel m v v') {b : Bool} {K : V → Bool} (h : outL ok v b K = true) : ∃ u, VRel m u (if ok then .tuple #[v', .bool b] else v') ∧ K u = true := by
  rcases alt_inv h with ⟨rfl, h1⟩ | ⟨rfl, h1⟩
  · exact ⟨_, .tup [v, .bool b] [v', .bool b] (.cons _ _ _ _ rv (.cons _ _ _ _ (.bool b) .nil)), h1⟩
  · exact ⟨_, rv, h1⟩
def noneL (P : Program) (e : TypeId) (ok : Bool) (K : V → Bool) : Bool := optK (zeroT P e) fun z => outL ok z false K
def lookupM (P : Program) (e : TypeId) (k : V) (ok : Bool) (h : Hp) (K : V → Bool) (b : BId) : Bool := onMap h b fun _ es _ => findE k es 0 (fun _ v => outL ok v true K) (noneL P e ok K)
def lookupK (P : Program) (t : TypeId) (m k : V) (ok : Bool) (h : Hp) (K : V → Bool) : Bool := optK (mapT P t) fun q => Prod.rec (motive := fun _ => Bool) (fun kt e => keyOk kt k (onMpN m (lookupM P e k ok h K) (noneL P e ok K))) q
theorem keyOk_true {kt : KT} {k : V} {x : Bool} (h : keyOk kt k x = true) : x = true := by
  cases kt
  · obtain ⟨_, _, _, h1⟩ := onInt_inv (show onInt k _ = true from h); exact h1
  · obtain ⟨_, _, h1⟩ := onStr_inv (show onStr k _ = true from h); exact h1
theorem lookupK_one {P : Program} {G : Fr} {m : M} {h : Hp} {w : World} (r : HRel G m h w) {x k : V} {x' k' : Value} (rx : VRel m x x') (rk : VRel m k k') {t : TypeId} {ok : Bool} {K : V → Bool} (e : lookupK P t x k ok h K = true) :
    One P m w (Instr.lookup t x' k' ok) K := by
  obtain ⟨⟨kt, el⟩, hq, h1⟩ := optK_inv e
  obtain ⟨kty, u, hu, hku, hk⟩ := mapT_eq hq
  have h2 := keyOk_true h1
  have none_ : ∀ {es : List MapEntry}, noneL P el ok K = true → Instr.findNow u k' es 0 = some none → ∃ z v, (∀ w, (zeroValue el).run P w = .ok z w) ∧ VRel m v (if ok then .tuple #[z, .bool false] else z) ∧ K v = true := by
    intro es hn _
    obtain ⟨z, hz, h3⟩ := optK_inv hn
    obtain ⟨z', rz, hzr⟩ := zeroT_run hz
    obtain ⟨v, rv, hK⟩ := outL_inv (rz m) h3
    exact ⟨z', v, hzr, rv, hK⟩
  rcases onMpN_inv h2 with ⟨b, rfl, h3⟩ | ⟨rfl, h3⟩
  · obtain ⟨clock, es, st, hb, h4⟩ := onMap_inv (show onMap h b _ = true from h3)
    cases rx with
    | mp _ R hr =>
      obtain ⟨l, base, sz, hm, hw, he, hbn⟩ := r.mapOf hb hr
      rcases findE_inv hk rk h1 he h4 with ⟨h5, h6⟩ | ⟨j, v, v', h5, _, _, rv, h6⟩
      · obtain ⟨z, v, hz, rv, hK⟩ := none_ h6 h5
        exact ⟨v, _, by simp [Instr.lookup, run_underlying hu, run_getMap hw, checkKey_run hku hk, findKey_run hku h5, hz], rv, hK⟩
      · obtain ⟨v2, rv2, hK⟩ := outL_inv rv h6
        exact ⟨v2, _, by simp [Instr.lookup, run_underlying hu, run_getMap hw, checkKey_run hku hk, findKey_run hku h5], rv2, hK⟩
  · cases rx
    obtain ⟨z, v, hz, rv, hK⟩ := none_ (es := []) h3 rfl
    have h5 : Instr.findNow u k' ([] : List MapEntry) 0 = some none := rfl
    exact ⟨v, _, by simp [Instr.lookup, run_underlying hu, checkKey_run hku hk, findKey_run hku h5, hz], rv, hK⟩
end
end Go.Ev
