/-
  The evaluator: code, calls, deferred calls, functions told, a run in pieces.
-/
import Derived.Test.YtljfidiaocakjaaGreatDoorEvD
import Derived.ScopeJumps
import Derived.Defers
import Derived.Below
set_option linter.unusedVariables false
set_option linter.unusedSimpArgs false
namespace Go.Ev
noncomputable section

inductive AExit where
  | nrm
  | exit (id : Nat)
  | goto (l : Nat)
  | ret
def AExit.is : AExit → Exit
  | .nrm => .normal
  | .exit id => .exit id
  | .goto l => .goto l
  | .ret => .ret
abbrev Kc := AExit → Tm → List Dfr → Hp → Bool
abbrev CM := Option Nat → Tm → List Dfr → Hp → Kc → Bool
def hasLabel (l : Nat) (c : Code) : Bool := Code.rec (motive := fun _ => Bool) false (fun _ _ _ => false) (fun _ _ a b => or a b) (fun _ _ _ _ _ => false) (fun _ _ _ => false) (fun _ _ => false) (fun _ _ _ _ _ _ => false) (fun _ => false) (fun _ _ => false) (fun l' => Nat.beq l' l) (fun _ => false) false (fun _ => false) c
def thenK (b : CM) (K : Kc) : Kc := fun e tm ds h => AExit.rec (motive := fun _ => Bool) (b none tm ds h K) (fun i => K (.exit i) tm ds h) (fun l => K (.goto l) tm ds h) (K .ret tm ds h) e
def cSeq (a _ : Code) (ia ib : CM) : CM := fun l tm ds h K => Option.rec (motive := fun _ => Bool) (ia none tm ds h (thenK ib K)) (fun l => alt (hasLabel l a) (ia (some l) tm ds h (thenK ib K)) (ib (some l) tm ds h K)) l
def noL (l : Option Nat) (x : Bool) : Bool := Option.rec (motive := fun _ => Bool) x (fun _ => false) l
theorem noL_inv {l : Option Nat} {x : Bool} (h : noL l x = true) : l = none ∧ x = true := by
  cases l with
  | none => exact ⟨rfl, h⟩
  | some l => cases h
def cSkip : CM := fun l tm ds h K => noL l (K .nrm tm ds h)
def cRegion (P : Program) (cf : CallF) (nt : Nat) (_ : Nat) (ops : Array Oper) (dr : Bool) : CM := fun l tm ds h K => noL l (Bool.rec (motive := fun _ => Bool) (opsK P cf nt ops.toList ops.toList tm ds h (K .nrm)) (drawK P cf nt ops tm ds h (K .nrm)) dr)
def cCond (c : Operand) (_ _ : Code) (ia ib : CM) : CM := fun l tm ds h K => noL l (ev c tm fun v => onBool v fun b => alt b (ia none tm ds h K) (ib none tm ds h K))
def blockX (id : Nat) (K : Kc) : Kc := fun e tm ds h => AExit.rec (motive := fun _ => Bool) (K .nrm tm ds h) (fun i => alt (Nat.beq i id) (K .nrm tm ds h) (K (.exit i) tm ds h)) (fun l => K (.goto l) tm ds h) (K .ret tm ds h) e
def cBlock (id : Nat) (_ : Code) (ia : CM) : CM := fun l tm ds h K => noL l (ia none tm ds h (blockX id K))
def loopX (ih : Tm → List Dfr → Hp → Kc → Bool) (K : Kc) : Kc := fun e tm ds h => AExit.rec (motive := fun _ => Bool) (ih tm ds h K) (fun i => K (.exit i) tm ds h) (fun l => K (.goto l) tm ds h) (K .ret tm ds h) e
def loopN (ia : CM) (n : Nat) : Tm → List Dfr → Hp → Kc → Bool := Nat.rec (motive := fun _ => Tm → List Dfr → Hp → Kc → Bool) (fun _ _ _ _ => false) (fun _ ih tm ds h K => ia none tm ds h (loopX ih K)) n
def cLoop (_ : Code) (ia : CM) : CM := fun l tm ds h K => noL l (loopN ia 5000 tm ds h K)
def cExit (id : Nat) : CM := fun l tm ds h K => noL l (K (.exit id) tm ds h)
def scopeX (c : Code) (ih : CM) (K : Kc) : Kc := fun e tm ds h => AExit.rec (motive := fun _ => Bool) (K .nrm tm ds h) (fun i => K (.exit i) tm ds h) (fun l => alt (hasLabel l c) (ih (some l) tm ds h K) (K (.goto l) tm ds h)) (K .ret tm ds h) e
def scopeN (c : Code) (ia : CM) (n : Nat) : CM := Nat.rec (motive := fun _ => CM) (fun _ _ _ _ _ => false) (fun _ ih l tm ds h K => ia l tm ds h (scopeX c ih K)) n
def cScope (c : Code) (ia : CM) : CM := fun l tm ds h K => noL l (scopeN c ia 100 none tm ds h K)
def cLabel (l' : Nat) : CM := fun l tm ds h K => Option.rec (motive := fun _ => Bool) (K .nrm tm ds h) (fun l => grd (Nat.beq l' l) (K .nrm tm ds h)) l
def cGoto (g : Nat) : CM := fun l tm ds h K => noL l (K (.goto g) tm ds h)
def cRet : CM := fun l tm ds h K => noL l (K .ret tm ds h)
def cNo : CM := fun _ _ _ _ _ => false
def codeK (P : Program) (cf : CallF) (nt : Nat) (c : Code) : CM := Code.rec (motive := fun _ => CM) cSkip (cRegion P cf nt) cSeq cCond cBlock cLoop (fun _ _ _ _ _ _ => cNo) cExit cScope cLabel cGoto cRet (fun _ => cNo) c

/-- a way out is served by K -/
def KOk (G : Fr) (m : M) (h : Hp) (nt : Nat) (K : Kc) (Q : Exit → Act → World → Prop) : Prop :=
  ∀ e tm ds h' a w m', Ext m h m' h' → SRel G m' nt tm ds h' a w → K e tm ds h' = true → Q e.is a w
theorem KOk.ext {G : Fr} {m m' : M} {h h' : Hp} {nt : Nat} {K : Kc} {Q : Exit → Act → World → Prop} (n : KOk G m h nt K Q) (x : Ext m h m' h') : KOk G m' h' nt K Q :=
  fun e tm ds h2 a w m2 x2 s k => n e tm ds h2 a w m2 (x.trans x2) s k
/-- the code that is entered at a label -/
def Entry (c : Code) : Option Nat → Code → Prop
  | none, x => x = c
  | some l, x => findLabel c l = some x
theorem hasLabel_eq (l : Nat) : ∀ c : Code, hasLabel l c = (findLabel c l).isSome := by
  intro c
  induction c with
  | seq a b iha ihb =>
    show or (hasLabel l a) (hasLabel l b) = _
    rw [iha, ihb]
    simp only [findLabel]
    cases findLabel a l with
    | none => rfl
    | some x => rfl
  | label l' =>
    show Nat.beq l' l = _
    simp only [findLabel]
    by_cases h : l' = l
    · subst h; simp
    · have : (l' == l) = false := by simpa using h
      simp only [this, Bool.false_eq_true, if_false]
      cases hb : Nat.beq l' l with
      | false => rfl
      | true => exact absurd (Nat.eq_of_beq_eq_true hb) h
  | _ => rfl
def CodeOk (P : Program) (G : Fr) (nt : Nat) (c : Code) (f : CM) : Prop := ∀ (l : Option Nat) (x : Code), Entry c l x → ∀ {m : M} {tm : Tm} {ds : List Dfr} {h : Hp} {a : Act} {w : World} {K : Kc} {Q : Exit → Act → World → Prop},
  SRel G m nt tm ds h a w → f l tm ds h K = true → KOk G m h nt K Q → x.wp P Q a w
theorem code_ok {P : Program} (gd : Good P) {cf : CallF} (hcf : CallOk P cf) (G : Fr) (nt : Nat) : ∀ c : Code, CodeOk P G nt c (codeK P cf nt c) := by
  intro c
  induction c with
  | skip =>
    intro l x hx m tm ds h a w K Q s e hk
    obtain ⟨rfl, e⟩ := noL_inv (show noL l _ = true from e)
    obtain rfl : x = _ := hx
    exact wp_skip (hk .nrm tm ds h a w m (Ext.refl m h) s e)
  | region id ops dr =>
    intro l x hx m tm ds h a w K Q s e hk
    obtain ⟨rfl, e⟩ := noL_inv (show noL l _ = true from e)
    obtain rfl : x = _ := hx
    have hn : NOk G m h nt (K .nrm) (Q .normal) := fun tm ds h' a w m' x1 s k => hk .nrm tm ds h' a w m' x1 s k
    cases dr with
    | false => exact wp_region_list (opsK_list gd hcf s (show opsK P cf nt ops.toList ops.toList tm ds h (K .nrm) = true from e) hn)
    | true =>
      exact wp_region_any gd.mixed (drawK_ok gd hcf ⟨s.t, s.d, s.h.drew, s.g⟩ (show drawK P cf nt ops tm ds h (K .nrm) = true from e) hn)
  | seq a b iha ihb =>
    intro l x hx m tm ds h ac w K Q s e hk
    have hthen : KOk G m h nt (thenK (codeK P cf nt b) K) (Exit.then (b.wp P Q) Q) := by
      intro ex tm' ds' h' a' w' m' x1 s' k
      cases ex with
      | nrm => exact ihb none b rfl s' (show codeK P cf nt b none tm' ds' h' K = true from k) (hk.ext x1)
      | exit id => exact hk (.exit id) _ _ _ _ _ _ x1 s' k
      | goto g => exact hk (.goto g) _ _ _ _ _ _ x1 s' k
      | ret => exact hk .ret _ _ _ _ _ _ x1 s' k
    cases l with
    | none =>
      obtain rfl : x = _ := hx
      exact wp_seq (iha none a rfl s (show codeK P cf nt a none tm ds h (thenK (codeK P cf nt b) K) = true from e) hthen)
    | some l =>
      have hx : findLabel (.seq a b) l = some x := hx
      have e : alt (hasLabel l a) (codeK P cf nt a (some l) tm ds h (thenK (codeK P cf nt b) K)) (codeK P cf nt b (some l) tm ds h K) = true := e
      rw [hasLabel_eq] at e
      simp only [findLabel] at hx
      cases hf : findLabel a l with
      | none =>
        rw [hf] at hx e
        exact ihb (some l) x hx s e hk
      | some r =>
        rw [hf] at hx e
        cases hx
        exact wp_seq (iha (some l) r hf s e hthen)
  | cond c a b iha ihb =>
    intro l x hx m tm ds h ac w K Q s e hk
    obtain ⟨rfl, e⟩ := noL_inv (show noL l _ = true from e)
    obtain rfl : x = _ := hx
    obtain ⟨v, rv, h1⟩ := ev_inv s.g s.t e
    obtain ⟨t, rfl, h2⟩ := onBool_inv h1
    generalize hc : ac.eval c = cv at rv
    cases rv
    rcases alt_inv h2 with ⟨rfl, h3⟩ | ⟨rfl, h3⟩
    · exact wp_cond_true hc (iha none a rfl s h3 hk)
    · exact wp_cond_false hc (ihb none b rfl s h3 hk)
  | block id a iha =>
    intro l x hx m tm ds h ac w K Q s e hk
    obtain ⟨rfl, e⟩ := noL_inv (show noL l _ = true from e)
    obtain rfl : x = _ := hx
    refine wp_block (iha none a rfl s e ?_)
    intro ex tm' ds' h' a' w' m' x1 s' k
    cases ex with
    | nrm => exact hk .nrm _ _ _ _ _ _ x1 s' k
    | exit i =>
      rcases alt_inv (show alt (Nat.beq i id) _ _ = true from k) with ⟨h1, h2⟩ | ⟨h1, h2⟩
      · have h1 : i = id := Nat.eq_of_beq_eq_true h1
        simp only [AExit.is, Exit.inBlock, h1, if_true]
        exact hk .nrm _ _ _ _ _ _ x1 s' h2
      · have h1 : ¬ i = id := fun e => by subst e; simp at h1
        simp only [AExit.is, Exit.inBlock, h1, if_false]
        exact hk (.exit i) _ _ _ _ _ _ x1 s' h2
    | goto g => exact hk (.goto g) _ _ _ _ _ _ x1 s' k
    | ret => exact hk .ret _ _ _ _ _ _ x1 s' k
  | loop a iha =>
    intro l x hx m tm ds h ac w K Q s e hk
    have e : cLoop a (codeK P cf nt a) l tm ds h K = true := e
    unfold cLoop at e
    obtain ⟨rfl, e⟩ := noL_inv e
    obtain rfl : x = _ := hx
    intro b k cs
    have key : ∀ (n : Nat) (m : M) (tm : Tm) (ds : List Dfr) (h : Hp) (ac : Act) (w : World), SRel G m nt tm ds h ac w → loopN (codeK P cf nt a) n tm ds h K = true → KOk G m h nt K Q →
        ∃ e a' w', Q e a' w' ∧ Arrives P (lone (b.at ac (.code a :: .inLoop a :: k)) cs w) b k cs e a' w' := by
      intro n
      induction n with
      | zero => intro m tm ds h ac w s e hk; cases e
      | succ n ihn =>
        intro m tm ds h ac w s e hk
        have hr : a.wp P (fun ex a' w' => match ex with
            | .normal => ∃ e2 a2 w2, Q e2 a2 w2 ∧ Arrives P (lone (b.at a' (.code a :: .inLoop a :: k)) cs w') b k cs e2 a2 w2
            | ex => Q ex a' w') ac w := by
          refine iha none a rfl s (show codeK P cf nt a none tm ds h (loopX (loopN (codeK P cf nt a) n) K) = true from e) ?_
          intro ex tm' ds' h' a' w' m' x1 s' kk
          cases ex with
          | nrm => exact ihn m' tm' ds' h' a' w' s' kk (hk.ext x1)
          | exit i => exact hk (.exit i) _ _ _ _ _ _ x1 s' kk
          | goto g => exact hk (.goto g) _ _ _ _ _ _ x1 s' kk
          | ret => exact hk .ret _ _ _ _ _ _ x1 s' kk
        obtain ⟨ex, a₁, w₁, hq, harr⟩ := hr b (.inLoop a :: k) cs
        cases ex with
        | normal =>
          obtain ⟨e₂, a₂, w₂, hq₂, harr₂⟩ := hq
          exact ⟨e₂, a₂, w₂, hq₂, .of_steps (Steps.trans harr (.one step_inLoop)) harr₂⟩
        | exit id => exact ⟨_, a₁, w₁, hq, .pass (x := .inLoop a) rfl (fun _ _ => .inl (by simp)) harr⟩
        | goto l => exact ⟨_, a₁, w₁, hq, .pass (x := .inLoop a) rfl (fun _ _ => .inl (by simp)) harr⟩
        | ret => exact ⟨_, a₁, w₁, hq, .pass (x := .inLoop a) rfl (fun _ _ => .inl (by simp)) harr⟩
        | panic ch => exact ⟨_, a₁, w₁, hq, .pass (x := .inLoop a) rfl (fun _ _ => .inl (by simp)) harr⟩
        | outgrown => exact ⟨_, a₁, w₁, hq, .pass (x := .inLoop a) rfl (fun _ _ => .inl (by simp)) harr⟩
    obtain ⟨e2, a', w', hq, harr⟩ := key 5000 m tm ds h ac w s e hk
    exact ⟨e2, a', w', hq, .of_steps (.one step_loop) harr⟩
  | scope c ihc =>
    intro l x hx m tm ds h ac w K Q s e hk
    have e : cScope c (codeK P cf nt c) l tm ds h K = true := e
    unfold cScope at e
    obtain ⟨rfl, e⟩ := noL_inv e
    obtain rfl : x = _ := hx
    intro b k cs
    have key : ∀ (n : Nat) (l : Option Nat) (y : Code), Entry c l y → ∀ (m : M) (tm : Tm) (ds : List Dfr) (h : Hp) (ac : Act) (w : World), SRel G m nt tm ds h ac w → scopeN c (codeK P cf nt c) n l tm ds h K = true → KOk G m h nt K Q →
        ∃ e a' w', Q e a' w' ∧ Arrives P (lone (b.at ac (.code y :: .inScope c :: k)) cs w) b k cs e a' w' := by
      intro n
      induction n with
      | zero => intro l y hy m tm ds h ac w s e hk; cases e
      | succ n ihn =>
        intro l y hy m tm ds h ac w s e hk
        have hr : y.wp P (fun ex a' w' => match ex with
            | .goto g => match findLabel c g with
              | some z => ∃ e2 a2 w2, Q e2 a2 w2 ∧ Arrives P (lone (b.at a' (.code z :: .inScope c :: k)) cs w') b k cs e2 a2 w2
              | none => Q (.goto g) a' w'
            | ex => Q ex a' w') ac w := by
          refine ihc l y hy s (show codeK P cf nt c l tm ds h (scopeX c (scopeN c (codeK P cf nt c) n) K) = true from e) ?_
          intro ex tm' ds' h' a' w' m' x1 s' kk
          cases ex with
          | nrm => exact hk .nrm _ _ _ _ _ _ x1 s' kk
          | exit i => exact hk (.exit i) _ _ _ _ _ _ x1 s' kk
          | goto g =>
            have kk : alt (hasLabel g c) (scopeN c (codeK P cf nt c) n (some g) tm' ds' h' K) (K (.goto g) tm' ds' h') = true := kk
            rw [hasLabel_eq] at kk
            simp only [AExit.is]
            cases hf : findLabel c g with
            | none =>
              rw [hf] at kk
              exact hk (.goto g) _ _ _ _ _ _ x1 s' kk
            | some z =>
              rw [hf] at kk
              exact ihn (some g) z hf m' tm' ds' h' a' w' s' kk (hk.ext x1)
          | ret => exact hk .ret _ _ _ _ _ _ x1 s' kk
        obtain ⟨ex, a₁, w₁, hq, harr⟩ := hr b (.inScope c :: k) cs
        cases ex with
        | normal => exact ⟨.normal, a₁, w₁, hq, Steps.trans harr (.one step_inScope)⟩
        | exit id => exact ⟨.exit id, a₁, w₁, hq, fun k' hk => harr k' (by simp [exitTo, hk])⟩
        | goto g =>
          simp only at hq
          cases hf : findLabel c g with
          | none =>
            rw [hf] at hq
            exact ⟨.goto g, a₁, w₁, hq, fun k' hk => harr k' (by simp [gotoIn, hf, hk])⟩
          | some z =>
            rw [hf] at hq
            obtain ⟨e₂, a₂, w₂, hq₂, harr₂⟩ := hq
            exact ⟨e₂, a₂, w₂, hq₂, .of_steps (harr _ (by simp [gotoIn, hf])) harr₂⟩
        | ret => exact ⟨_, a₁, w₁, hq, harr⟩
        | panic ch => exact ⟨_, a₁, w₁, hq, harr⟩
        | outgrown => exact ⟨_, a₁, w₁, hq, harr⟩
    obtain ⟨e2, a', w', hq, harr⟩ := key 100 none c rfl m tm ds h ac w s e hk
    exact ⟨e2, a', w', hq, .of_steps (.one step_scope) harr⟩
  | exit id =>
    intro l x hx m tm ds h a w K Q s e hk
    obtain ⟨rfl, e⟩ := noL_inv (show noL l _ = true from e)
    obtain rfl : x = _ := hx
    exact wp_exit (hk (.exit id) tm ds h a w m (Ext.refl m h) s e)
  | label l' =>
    intro l x hx m tm ds h a w K Q s e hk
    cases l with
    | none =>
      obtain rfl : x = _ := hx
      exact wp_label (hk .nrm tm ds h a w m (Ext.refl m h) s e)
    | some l =>
      obtain ⟨h1, h2⟩ := grd_inv (show grd (Nat.beq l' l) (K .nrm tm ds h) = true from e)
      have h1 : l' = l := Nat.eq_of_beq_eq_true h1
      subst h1
      have hx : findLabel (.label l') l' = some x := hx
      simp [findLabel] at hx
      subst hx
      exact wp_skip (hk .nrm tm ds h a w m (Ext.refl m h) s h2)
  | goto g =>
    intro l x hx m tm ds h a w K Q s e hk
    obtain ⟨rfl, e⟩ := noL_inv (show noL l _ = true from e)
    obtain rfl : x = _ := hx
    exact wp_goto (hk (.goto g) tm ds h a w m (Ext.refl m h) s e)
  | ret =>
    intro l x hx m tm ds h a w K Q s e hk
    obtain ⟨rfl, e⟩ := noL_inv (show noL l _ = true from e)
    obtain rfl : x = _ := hx
    exact wp_ret (hk .ret tm ds h a w m (Ext.refl m h) s e)
  | rangeFunc _ _ _ _ _ _ =>
    intro l x hx m tm ds h a w K Q s e hk
    cases e
  | refuse _ =>
    intro l x hx m tm ds h a w K Q s e hk
    cases e
end
end Go.Ev
namespace Go.Ev
noncomputable section

-- the arguments laid down
def putsT (nt : Nat) (l : List V) : Nat → Tm → (Tm → Bool) → Bool := List.rec (motive := fun _ => Nat → Tm → (Tm → Bool) → Bool) (fun _ tm K => K tm) (fun v _ ih i tm K => grd (Nat.blt i nt) (T3.put i (some v) tm fun tm => fN (Nat.add i 1) fun i => ih i tm K)) l
theorem putsT_cons {nt : Nat} {v : V} {l : List V} {i : Nat} {tm : Tm} {K : Tm → Bool} (h : putsT nt (v :: l) i tm K = true) : i < nt ∧ putsT nt l (i + 1) (T3.set tm i (some v)) K = true := by
  obtain ⟨h1, h2⟩ := grd_inv (show grd (Nat.blt i nt) _ = true from h)
  rw [T3.put_eq, fN_eq] at h2
  exact ⟨Nat.of_blt h1, h2⟩
theorem putsT_len {nt : Nat} : ∀ {l : List V} {i : Nat} {tm : Tm} {K : Tm → Bool}, putsT nt l i tm K = true → l = [] ∨ i + l.length ≤ nt
  | [], _, _, _, _ => .inl rfl
  | v :: l, i, tm, K, h => by
    obtain ⟨h1, h2⟩ := putsT_cons h
    rcases putsT_len h2 with rfl | h3
    · exact .inr (by simp; omega)
    · exact .inr (by simp; omega)
theorem TRel.know {m : M} {nt : Nat} {tm : Tm} {a : Act} (r : TRel m nt tm a) {i : Nat} (hi : i < nt) {v : V} {v' : Value} (ha : a.tmps[i]? = some v') (rv : VRel m v v') : TRel m nt (T3.set tm i (some v)) a := by
  refine ⟨r.size, r.le, fun t u ht hu => ?_⟩
  have hle := r.le
  by_cases h : i = t
  · subst h
    rw [T3.at_set_same] at hu
    cases hu
    exact ⟨v', ha, rv⟩
  · rw [T3.at_set_ne _ _ _ _ (by omega) ht h] at hu
    exact r.at_ t u ht hu
theorem putsT_inv {m : M} {nt : Nat} {a : Act} : ∀ {l : List V} {l' : List Value} (rl : LRel m l l') {i : Nat} {tm : Tm} {K : Tm → Bool}, (∀ j v', l'[j]? = some v' → a.tmps[i + j]? = some v') → TRel m nt tm a → putsT nt l i tm K = true →
    ∃ tm', TRel m nt tm' a ∧ K tm' = true
  | _, _, .nil, i, tm, K, _, r, h => ⟨tm, r, h⟩
  | _, _, .cons v v' l l' rv t, i, tm, K, ha, r, h => by
    obtain ⟨h1, h2⟩ := putsT_cons h
    refine putsT_inv t (fun j u hu => ?_) (r.know h1 (ha 0 v' rfl) rv) h2
    have := ha (j + 1) u (by simpa using hu)
    have e : i + (j + 1) = i + 1 + j := by omega
    rwa [e] at this

-- the results
def resStep (P : Program) (r : ResultVar) (ih : Tm → Hp → (List V → Bool) → Bool) (tm : Tm) (h : Hp) (K : List V → Bool) : Bool := ResultVar.rec (motive := fun _ => Bool) (fun t => evT t tm fun v => ih tm h fun vs => K (v :: vs)) (fun a t => evT a tm fun p => loadK P t h p fun v => ih tm h fun vs => K (v :: vs)) r
def resK (P : Program) (rs : List ResultVar) : Tm → Hp → (List V → Bool) → Bool := List.rec (motive := fun _ => Tm → Hp → (List V → Bool) → Bool) (fun _ _ K => K []) (fun r _ ih => resStep P r ih) rs
def resOne (tmps : Array Value) : ResultVar → Sem Value
  | .tmp t => pure (tmps.getD t undef)
  | .cell a t => do loadVar t (← asAddr (tmps.getD a undef))
theorem resK_inv {P : Program} {G : Fr} {m : M} {nt : Nat} {tm : Tm} {h : Hp} {a : Act} {w : World} (hg : GRel m) (ht : TRel m nt tm a) (hh : HRel G m h w) : ∀ {rs : List ResultVar} {K : List V → Bool}, resK P rs tm h K = true →
    ∃ vs vs', (rs.mapM (resOne a.tmps)).run P w = .ok vs' w ∧ LRel m vs vs' ∧ K vs = true
  | [], K, e => ⟨[], [], by simp, .nil, e⟩
  | .tmp t :: rs, K, e => by
    obtain ⟨v, rv, h1⟩ := ev_inv hg ht (x := .tmp t) (show ev (.tmp t) tm (fun v => resK P rs tm h fun vs => K (v :: vs)) = true from e)
    obtain ⟨vs, vs', hr, rvs, hK⟩ := resK_inv hg ht hh h1
    exact ⟨v :: vs, a.eval (.tmp t) :: vs', by simp [List.mapM_cons, resOne, hr, Act.eval], .cons _ _ _ _ rv rvs, hK⟩
  | .cell p t :: rs, K, e => by
    obtain ⟨v, rv, h1⟩ := ev_inv hg ht (x := .tmp p) (show ev (.tmp p) tm (fun p => loadK P t h p fun v => resK P rs tm h fun vs => K (v :: vs)) = true from e)
    obtain ⟨u, u', hl, ru, h2⟩ := loadK_one (P := P) hh rv h1
    obtain ⟨vs, vs', hr, rvs, hK⟩ := resK_inv hg ht hh h2
    refine ⟨u :: vs, u' :: vs', ?_, .cons _ _ _ _ ru rvs, hK⟩
    generalize hc : a.eval (.tmp p) = c at rv hl
    have hc2 : a.tmps.getD p undef = c := hc
    obtain ⟨b, off, rfl, _⟩ := onPtr_inv h1
    cases rv with
    | ptr _ _ ad _ =>
      have hl2 : (loadVar t ad).run P w = .ok u' w := by simpa [Instr.loadAt, Instr.sureAddr] using hl
      simp only [Array.getD_eq_getD_getElem?] at hc2
      simp [List.mapM_cons, resOne, hc2, asAddr, hl2, hr]
def oneK (vs : List V) (K : V → Bool) : Bool := List.rec (motive := fun _ => Bool) (K nilT) (fun v l _ => List.rec (motive := fun _ => Bool) (K v) (fun u l _ => K (.tup (v :: u :: l))) l) vs
theorem results_run {P : Program} {m : M} {fn : Func} {tmps : Array Value} {w : World} {vs : List V} {vs' : List Value} (hr : (fn.results.toList.mapM (resOne tmps)).run P w = .ok vs' w) (rv : LRel m vs vs') {K : V → Bool} (e : oneK vs K = true) :
    ∃ v v', (results fn tmps).run P w = .ok v' w ∧ VRel m v v' ∧ K v = true := by
  have h1 : (results fn tmps).run P w = .ok (if h : vs'.toArray.size = 1 then vs'.toArray[0] else .tuple vs'.toArray) w := by
    have e1 : results fn tmps = (do
      let vs ← fn.results.mapM (resOne tmps)
      pure (if h : vs.size = 1 then vs[0] else .tuple vs)) := by
      unfold results
      congr 1
    rw [e1, Array.mapM_eq_mapM_toList]
    simp [hr]
  cases rv with
  | nil => exact ⟨nilT, .tuple #[], by simpa using h1, .tup [] [] .nil, e⟩
  | cons v v' l l' rv t =>
    cases t with
    | nil => exact ⟨v, v', by simpa using h1, rv, e⟩
    | cons u u' k k' ru t => exact ⟨.tup (v :: u :: k), .tuple (v' :: u' :: k').toArray, by simpa using h1, .tup _ _ (.cons _ _ _ _ rv (.cons _ _ _ _ ru t)), e⟩

-- what is told of some functions
structure Told where
  sums : FuncId → Option (List V → Hp → (V → Hp → Bool) → Bool)
  idle : FuncId → List V → Bool
/-- deferred, behind a run without a panic, it does nothing -/
def Idle (P : Program) (f : FuncId) (n : Nat) : Prop := HasBody P f ∧ ∀ (args : Array Value) w, args.size = n → CallsD P f args .returning w fun e u' w' => (∃ v, e = .returned v) ∧ u' = .returning ∧ w'.heap = w.heap ∧ w'.os = w.os ∧ w'.tape = w.tape ∧ w'.output = w.output
structure ToldOk (P : Program) (T : Told) : Prop where
  sums : ∀ f s, T.sums f = some s → HasBody P f ∧ ∀ args h K, s args h K = true → ∀ G m w (args' : List Value), HRel G m h w → GRel m → LRel m args args' → Calls P f args'.toArray w (Ret G m h K)
  idle : ∀ f l, T.idle f l = true → Idle P f l.length
def allIdle (T : Told) (ds : List Dfr) : Bool := List.rec (motive := fun _ => Bool) true (fun d _ ih => Dfr.rec (motive := fun _ => Bool) (fun f l => grd (T.idle f l) ih) d) ds
theorem leaves_idle {P : Program} (gd : Good P) {T : Told} (hT : ToldOk P T) {fn : Func} {tmps : Array Value} {R : Ending → World → Prop} {G : Fr} {m : M} {h : Hp} (hR : ∀ w, HRel G m h w → ∃ v, (results fn tmps).run P w = .ok v w ∧ R (.returned v) w) :
    ∀ {ds : List Dfr} {d : List Deferred} (rd : DRel m ds d) {w : World}, HRel G m h w → allIdle T ds = true → Leaves P fn tmps R d .returning w
  | _, _, .nil, w, hw, _ => hR w hw
  | _, _, .cons x d l l' ⟨cap, ht, hl⟩ t, w, hw, e => by
    obtain ⟨h1, h2⟩ := grd_inv (show grd (T.idle x.f x.args) (allIdle T l) = true from e)
    obtain ⟨⟨g, c, hf, hb⟩, hi⟩ := hT.idle _ _ h1
    have hnm : ¬ g.name = "runtime.NumGoroutine" := by simpa using gd.names x.f g hf
    refine ⟨by simp, .func x.f, cap, x.f, d.args ++ cap, ht, ?_, ?_⟩
    · rw [ht]; simp [invoke, callFunc, hf, hb, hnm]
    · refine CallsD.mono (hi (d.args ++ cap) w (by rw [hl.length]; simp)) fun en u' w' hr => ?_
      obtain ⟨⟨v, rfl⟩, rfl, hh, ho, htp, hout⟩ := hr
      exact leaves_idle gd hT hR t (hw.still (fun k => by rw [hh]) (by rw [hh]) ho htp hout) h2

-- calls
def endG (P : Program) (T : Told) (rs : List ResultVar) (K : V → Hp → Bool) (tm : Tm) (ds : List Dfr) (h : Hp) : Bool := grd (allIdle T ds) (resK P rs tm h fun vs => oneK vs fun v => K v h)
def endK (P : Program) (T : Told) (rs : List ResultVar) (K : V → Hp → Bool) : Kc := fun e tm ds h => AExit.rec (motive := fun _ => Bool) (endG P T rs K tm ds h) (fun _ => false) (fun _ => false) (endG P T rs K tm ds h) e
def bodyC (P : Program) (T : Told) (cf : CallF) (args : List V) (h : Hp) (K : V → Hp → Bool) (nt : Nat) (rs : List ResultVar) (c : Code) : Bool := grd (Nat.ble nt 256) (putsT nt args 0 (T3.all none) fun tm => codeK P cf nt c none tm [] h (endK P T rs K))
def bodyK (P : Program) (T : Told) (cf : CallF) (args : List V) (h : Hp) (K : V → Hp → Bool) (f : Func) : Bool := Func.rec (motive := fun _ => Bool) (fun _ _ _ _ _ _ nt rs body _ _ _ _ _ _ _ => optK body (bodyC P T cf args h K nt rs.toList)) f
def callStep (P : Program) (T : Told) (ih : CallF) : CallF := fun f args h K => Option.rec (motive := fun _ => Bool) (optK (P.funcs[f]?) (bodyK P T ih args h K)) (fun s => s args h K) (T.sums f)
def callK (P : Program) (T : Told) (n : Nat) : CallF := Nat.rec (motive := fun _ => CallF) (fun _ _ _ _ => false) (fun _ ih => callStep P T ih) n
theorem bodyK_ok {P : Program} (gd : Good P) {T : Told} (hT : ToldOk P T) {cf : CallF} (hcf : CallOk P cf) {f : FuncId} {fn : Func} (hf : P.funcs[f]? = some fn) {args : List V} {h : Hp} {K : V → Hp → Bool} (e : bodyK P T cf args h K fn = true) :
    HasBody P f ∧ ∀ G m w (args' : List Value), HRel G m h w → GRel m → LRel m args args' → Calls P f args'.toArray w (Ret G m h K) := by
  have e : optK fn.body (bodyC P T cf args h K fn.ntmps fn.results.toList) = true := e
  obtain ⟨c, hb, h1⟩ := optK_inv e
  obtain ⟨h2, h3⟩ := grd_inv h1
  have h2 : fn.ntmps ≤ 256 := Nat.le_of_ble_eq_true h2
  refine ⟨⟨fn, c, hf, hb⟩, fun G m w args' hh hg ra => ?_⟩
  have hlen : args'.length ≤ fn.ntmps := by
    rcases putsT_len h3 with h4 | h4
    · rw [← ra.length, h4]; simp
    · rw [← ra.length]; omega
  refine calls_of_wp_defers hf hb ?_
  have hsz : (args'.toArray ++ Array.replicate (fn.ntmps - args'.toArray.size) undef).size = fn.ntmps := by simp; omega
  have r0 : TRel m fn.ntmps (T3.all none) { tmps := args'.toArray ++ Array.replicate (fn.ntmps - args'.toArray.size) undef, defers := [] } := ⟨hsz, h2, fun t v _ hv => by simp at hv⟩
  obtain ⟨tm, rt, h5⟩ := putsT_inv ra (fun j v' hj => by
    have hlt : j < args'.length := by
      rcases Nat.lt_or_ge j args'.length with h | h
      · exact h
      · rw [List.getElem?_eq_none h] at hj; cases hj
    show (args'.toArray ++ Array.replicate (fn.ntmps - args'.toArray.size) undef)[0 + j]? = some v'
    rw [Nat.zero_add, Array.getElem?_append_left (by simpa using hlt)]
    simpa using hj) r0 h3
  refine code_ok gd hcf G fn.ntmps c none c rfl ⟨rt, .nil, hh, hg⟩ h5 ?_
  intro ex tm' ds' h' a' w' m' x1 s' k
  have fin : endG P T fn.results.toList K tm' ds' h' = true → Leaves P fn a'.tmps (Ret G m h K) a'.defers .returning w' := by
    intro k
    obtain ⟨h6, h7⟩ := grd_inv k
    refine leaves_idle gd hT (fun w2 hw2 => ?_) s'.d s'.h h6
    obtain ⟨vs, vs', hr, rvs, hK⟩ := resK_inv s'.g s'.t hw2 h7
    obtain ⟨v, v', hres, rv, hK2⟩ := results_run hr rvs hK
    exact ⟨v', hres, v, h', m', x1, rv, hw2, hK2⟩
  cases ex with
  | nrm => exact fin k
  | ret => exact fin k
  | exit i => cases k
  | goto g => cases k
theorem callK_ok {P : Program} (gd : Good P) {T : Told} (hT : ToldOk P T) : ∀ n, CallOk P (callK P T n)
  | 0 => fun f args h K e => by cases e
  | n + 1 => fun f args h K e => by
    have e : callStep P T (callK P T n) f args h K = true := e
    unfold callStep at e
    cases hs : T.sums f with
    | some s =>
      rw [hs] at e
      obtain ⟨h1, h2⟩ := hT.sums f s hs
      exact ⟨h1, h2 args h K e⟩
    | none =>
      rw [hs] at e
      obtain ⟨fn, hf, h1⟩ := optK_inv (show optK (P.funcs[f]?) (bodyK P T (callK P T n) args h K) = true from e)
      exact bodyK_ok gd hT (callK_ok gd hT n) hf h1
end
end Go.Ev
namespace Go.Ev
noncomputable section

def tmOf (l : List (Nat × V)) : Tm := List.rec (motive := fun _ => Tm) (T3.all none) (fun p _ ih => T3.set ih p.1 (some p.2)) l
def blOf (l : List (Nat × Blk)) : T5 (Option Blk) := List.rec (motive := fun _ => T5 (Option Blk)) (T5.all none) (fun p _ ih => T5.set ih (BId.of p.1) (some p.2)) l
def hpOf (nx : Nat) (l : List (Nat × Blk)) : Hp := ⟨BId.of nx, blOf l⟩
/-- the same, made step by step -/
def layT (l : List (Nat × V)) : (Tm → Bool) → Bool := List.rec (motive := fun _ => (Tm → Bool) → Bool) (fun K => K (T3.all none)) (fun p _ ih K => Prod.rec (motive := fun _ => Bool) (fun i v => ih fun tm => T3.put i (some v) tm K) p) l
theorem layT_eq : ∀ (l : List (Nat × V)) (K : Tm → Bool), layT l K = K (tmOf l)
  | [], K => rfl
  | (i, v) :: l, K => by
    show layT l (fun tm => T3.put i (some v) tm K) = _
    rw [layT_eq l, T3.put_eq]; rfl
def layB (l : List (Nat × Blk)) : (T5 (Option Blk) → Bool) → Bool := List.rec (motive := fun _ => (T5 (Option Blk) → Bool) → Bool) (fun K => K (T5.all none)) (fun p _ ih K => Prod.rec (motive := fun _ => Bool) (fun i x => ih fun bl => T5.put (some x) bl K (BId.of i)) p) l
theorem layB_eq : ∀ (l : List (Nat × Blk)) (K : T5 (Option Blk) → Bool), layB l K = K (blOf l)
  | [], K => rfl
  | (i, v) :: l, K => by
    show layB l (fun bl => T5.put (some v) bl K (BId.of i)) = _
    rw [layB_eq l, T5.put_eq]; rfl
def fId (b : BId) (K : BId → Bool) : Bool := BId.rec (motive := fun _ => Bool) (fun a b c => D8.rec (motive := fun _ => (D8 → Bool) → Bool) (fun k => k .d0) (fun k => k .d1) (fun k => k .d2) (fun k => k .d3) (fun k => k .d4) (fun k => k .d5) (fun k => k .d6) (fun k => k .d7) (fun k => k .d8) (fun k => k .d9) (fun k => k .d10) (fun k => k .d11) (fun k => k .d12) (fun k => k .d13) (fun k => k .d14) (fun k => k .d15) a fun a =>
  D8.rec (motive := fun _ => (D8 → Bool) → Bool) (fun k => k .d0) (fun k => k .d1) (fun k => k .d2) (fun k => k .d3) (fun k => k .d4) (fun k => k .d5) (fun k => k .d6) (fun k => k .d7) (fun k => k .d8) (fun k => k .d9) (fun k => k .d10) (fun k => k .d11) (fun k => k .d12) (fun k => k .d13) (fun k => k .d14) (fun k => k .d15) b fun b =>
  D8.rec (motive := fun _ => (D8 → Bool) → Bool) (fun k => k .d0) (fun k => k .d1) (fun k => k .d2) (fun k => k .d3) (fun k => k .d4) (fun k => k .d5) (fun k => k .d6) (fun k => k .d7) (fun k => k .d8) (fun k => k .d9) (fun k => k .d10) (fun k => k .d11) (fun k => k .d12) (fun k => k .d13) (fun k => k .d14) (fun k => k .d15) c fun c => K ⟨a, b, c⟩) b
theorem fId_eq (b : BId) (K : BId → Bool) : fId b K = K b := by
  obtain ⟨a, b, c⟩ := b
  cases a <;> cases b <;> cases c <;> rfl
def startK (nx : Nat) (hl : List (Nat × Blk)) (tl : List (Nat × V)) (K : Tm → Hp → Bool) : Bool := fId (BId.of nx) fun nx => layB hl fun bl => layT tl fun tm => K tm ⟨nx, bl⟩
theorem startK_eq (nx : Nat) (hl : List (Nat × Blk)) (tl : List (Nat × V)) (K : Tm → Hp → Bool) : startK nx hl tl K = K (tmOf tl) (hpOf nx hl) := by
  unfold startK
  rw [fId_eq, layB_eq, layT_eq]; rfl

-- does a state hold it?
def eqEs (l : List (V × V)) : List (V × V) → Bool := List.rec (motive := fun _ => List (V × V) → Bool) (fun k => noneL0 k) (fun p _ ih k => List.rec (motive := fun _ => Bool) false (fun q k _ => grd (eqV p.1 q.1) (grd (eqV p.2 q.2) (ih k))) k) l
theorem eqEs_eq : ∀ {l k : List (V × V)}, eqEs l k = true → l = k
  | [], k, h => (noneL0_eq h).symm
  | (a, b) :: l, [], h => by cases h
  | (a, b) :: l, (c, d) :: k, h => by
    obtain ⟨h1, h2⟩ := grd_inv (show grd (eqV a c) (grd (eqV b d) (eqEs l k)) = true from h)
    obtain ⟨h3, h4⟩ := grd_inv h2
    rw [eqV_eq h1, eqV_eq h3, eqEs_eq h4]
def eqNs (l k : List Nat) : Bool := eqL l k
def eqBlkF (x y : Blk) : Bool := Blk.rec (motive := fun _ => Bool) (fun r cs => cellsK y fun r' cs' => grd (eqB1 r r') (eqVs cs cs'))
  (fun c es st => mapK y fun c' es' st' => grd (Nat.beq c c') (grd (eqEs es es') (eqL st st'))) (fun _ _ _ _ => false) (fun _ _ => false) x
theorem eqBlkF_eq {x y : Blk} (h : eqBlkF x y = true) : x = y := by
  cases x with
  | cells r cs =>
    obtain ⟨r', cs', rfl, h2⟩ := cellsK_inv (show cellsK y _ = true from h)
    obtain ⟨h3, h4⟩ := grd_inv h2
    rw [eqB1_eq h3, eqVs_eq h4]
  | map c es st =>
    obtain ⟨c', es', st', rfl, h1⟩ := mapK_inv (show mapK y _ = true from h)
    obtain ⟨h2, h3⟩ := grd_inv h1
    obtain ⟨h4, h5⟩ := grd_inv h3
    rw [eqL_eq] at h5
    have h5 : st = st' := by simpa using h5
    rw [Nat.eq_of_beq_eq_true h2, eqEs_eq h4, h5]
  | iter => cases h
  | siter => cases h
def chkT (l : List (Nat × V)) (tm : Tm) : Bool := List.rec (motive := fun _ => Bool) true (fun p _ ih => Prod.rec (motive := fun _ => Bool) (fun i v => grd (Nat.blt i 256) (T3.get i tm fun o => optK o fun u => grd (eqV v u) ih)) p) l
theorem chkT_ok {tm : Tm} : ∀ {l : List (Nat × V)}, chkT l tm = true → ∀ t v, t < 256 → T3.at (tmOf l) t = some v → T3.at tm t = some v
  | [], _, t, v, ht, h => by
    have h : T3.at (T3.all (none : Option V)) t = some v := h
    simp at h
  | (i, u) :: l, e, t, v, ht, h => by
    obtain ⟨h1, h2⟩ := grd_inv (show grd (Nat.blt i 256) _ = true from e)
    rw [T3.get_eq] at h2
    obtain ⟨x, hx, h3⟩ := optK_inv h2
    obtain ⟨h4, h5⟩ := grd_inv h3
    have h4 := eqV_eq h4
    subst h4
    have h : T3.at (T3.set (tmOf l) i (some u)) t = some v := h
    by_cases hit : i = t
    · subst hit
      rw [T3.at_set_same] at h
      cases h; exact hx
    · rw [T3.at_set_ne _ _ _ _ (Nat.of_blt h1) ht hit] at h
      exact chkT_ok h5 t v ht h
def chkH (l : List (Nat × Blk)) (h : Hp) : Bool := List.rec (motive := fun _ => Bool) true (fun p _ ih => Prod.rec (motive := fun _ => Bool) (fun i x => getK h (BId.of i) fun y => grd (eqBlkF x y) ih) p) l
theorem chkH_ok {h : Hp} : ∀ {l : List (Nat × Blk)}, chkH l h = true → ∀ b x, T5.at (blOf l) b = some x → h.at b = some x
  | [], _, b, x, e => by
    have e : T5.at (T5.all (none : Option Blk)) b = some x := e
    simp [T5.at, T5.all] at e
  | (i, y) :: l, e, b, x, hb => by
    obtain ⟨z, hz, h1⟩ := getK_inv (show getK h (BId.of i) _ = true from e)
    obtain ⟨h2, h3⟩ := grd_inv h1
    have h2 := eqBlkF_eq h2
    subst h2
    have hb : T5.at (T5.set (blOf l) (BId.of i) (some y)) b = some x := hb
    by_cases hib : BId.of i = b
    · subst hib
      rw [T5.at_set_same] at hb
      cases hb; exact hz
    · rw [T5.at_set_ne _ _ _ _ hib] at hb
      exact chkH_ok h3 b x hb
def hNx (h : Hp) (K : BId → Bool) : Bool := Hp.rec (motive := fun _ => Bool) (fun nx _ => K nx) h
def chkSt (nx : Nat) (hl : List (Nat × Blk)) (tl : List (Nat × V)) (tm : Tm) (ds : List Dfr) (h : Hp) : Bool := grd (noneL0 ds) (grd (Nat.blt nx 4096) (hNx h fun b => grd (Nat.beq b.val nx) (grd (chkT tl tm) (chkH hl h))))
theorem chkSt_ok {nx : Nat} {hl : List (Nat × Blk)} {tl : List (Nat × V)} {G : Fr} {m : M} {nt : Nat} {tm : Tm} {ds : List Dfr} {h : Hp} {a : Act} {w : World} (e : chkSt nx hl tl tm ds h = true) (s : SRel G m nt tm ds h a w) :
    SRel G m nt (tmOf tl) [] (hpOf nx hl) a w ∧ Ext m h m (hpOf nx hl) := by
  obtain ⟨h1, h2⟩ := grd_inv e
  obtain ⟨h3, h4⟩ := grd_inv h2
  have h5 : (grd (Nat.beq h.nx.val nx) (grd (chkT tl tm) (chkH hl h))) = true := by cases h; exact h4
  obtain ⟨h6, h7⟩ := grd_inv h5
  obtain ⟨h8, h9⟩ := grd_inv h7
  have h1 := noneL0_eq h1
  subst h1
  have hn : BId.of nx = h.nx := BId.val_inj (by rw [BId.val_of nx (Nat.of_blt h3)]; exact (Nat.eq_of_beq_eq_true h6).symm)
  have sub : ∀ b x, (hpOf nx hl).at b = some x → h.at b = some x := chkH_ok h9
  refine ⟨⟨⟨s.t.size, s.t.le, fun t v ht hv => s.t.at_ t v ht (chkT_ok h8 t v ht hv)⟩, s.d, ⟨fun b x hb => s.h.blk b x (sub b x hb), s.h.inj, fun b hb => s.h.nx b (by
    have hb : (BId.of nx).val ≤ b.val := hb
    rw [hn] at hb; exact hb), s.h.lt, s.h.gh, fun b B bs sz x o hm hx => s.h.gr b B bs sz x o hm (sub b x hx), s.h.os, s.h.tape, s.h.output, s.h.size⟩, s.g⟩, Le.refl m, by show h.nx.val ≤ (BId.of nx).val; rw [hn]; exact Nat.le_refl _, fun b hb hbn => ⟨?_, rfl⟩⟩
  cases hc : (hpOf nx hl).at b with
  | none => rfl
  | some x => rw [sub b x hc] at hbn; cases hbn

-- the first so many statements
def thenH (f : Kr) : Kc := fun e tm ds h => AExit.rec (motive := fun _ => Bool) (f tm ds h) (fun _ => false) (fun _ => false) false e
def headK (P : Program) (cf : CallF) (nt : Nat) : Nat → Code → Tm → List Dfr → Hp → Kr → Bool
  | 0, _, tm, ds, h, K => K tm ds h
  | n + 1, .seq a b, tm, ds, h, K => codeK P cf nt a none tm ds h (thenH fun tm ds h => headK P cf nt n b tm ds h K)
  | _ + 1, _, _, _, _, _ => false
def tailC : Nat → Code → Code
  | 0, c => c
  | n + 1, .seq _ b => tailC n b
  | _ + 1, c => c
theorem head_ok {P : Program} (gd : Good P) {cf : CallF} (hcf : CallOk P cf) {G : Fr} {nt : Nat} {Q : Exit → Act → World → Prop} : ∀ (n : Nat) (c : Code) {m : M} {tm : Tm} {ds : List Dfr} {h : Hp} {a : Act} {w : World} {K : Kr},
    SRel G m nt tm ds h a w → headK P cf nt n c tm ds h K = true → NOk G m h nt K ((tailC n c).wp P Q) → c.wp P Q a w
  | 0, c, m, tm, ds, h, a, w, K, s, e, hn => hn tm ds h a w m (Ext.refl m h) s e
  | n + 1, c, m, tm, ds, h, a, w, K, s, e, hn => by
    cases c with
    | seq x y =>
      have e : codeK P cf nt x none tm ds h (thenH fun tm ds h => headK P cf nt n y tm ds h K) = true := e
      refine wp_seq (code_ok gd hcf G nt x none x rfl s e ?_)
      intro ex tm' ds' h' a' w' m' x1 s' k
      cases ex with
      | nrm => exact head_ok gd hcf n y s' k (hn.ext x1)
      | exit i => cases k
      | goto g => cases k
      | ret => cases k
    | _ => cases e
end
end Go.Ev
namespace Go.Ev
open Go.RowKit (Below)
noncomputable section

theorem HRel.below {G : Fr} {m : M} {h : Hp} {w w' : World} (r : HRel G m h w) (hb : Below w.heap.size w w') : HRel G m h w' := by
  have old : ∀ (B : Nat) (o : Obj), w.heap[B]? = some o → w'.heap[B]? = some o := fun B o hB => by
    rw [hb.block B (by
      rcases Nat.lt_or_ge B w.heap.size with h | h
      · exact h
      · rw [Array.getElem?_eq_none h] at hB; cases hB)]
    exact hB
  refine ⟨fun b x hx => ?_, r.inj, r.nx, fun b B base sz hm => Nat.lt_of_lt_of_le (r.lt b B base sz hm) hb.size, fun B o ho => old B o (r.gh B o ho), r.gr, ?_, ?_, ?_, Nat.le_trans r.size hb.size⟩
  · obtain ⟨B, base, sz, o, hm, hw, hr⟩ := r.blk b x hx
    exact ⟨B, base, sz, o, hm, old B o hw, hr⟩
  · rw [hb.os, r.os]
  · rw [hb.tape, r.tape]
  · rw [hb.output, r.output]
theorem ret_below {G : Fr} {m : M} {h : Hp} {w w' : World} {v : V} {v' : Value} {K : V → Hp → Bool} (hh : HRel G m h w) (hb : Below w.heap.size w w') (rv : VRel m v v') (hK : K v h = true) : Ret G m h K (.returned v') w' :=
  ⟨v, h, m, Ext.refl m h, rv, hh.below hb, hK⟩

def mE : M := fun b => if b.val < 64 then .dead else .un
def hE : Hp := hpOf 64 []
theorem gE : GRel mE := fun g hg => by
  have : mE (BId.of g) = .dead := by unfold mE; rw [BId.val_of g (by omega), if_pos hg]
  unfold PRel; rw [this]; trivial
def allG (w : World) : Fr := ⟨w, fun B => w.heap[B]?⟩
theorem hrE (w : World) : HRel (allG w) mE hE w := by
  have nol : ∀ b B base sz, mE b = .live B base sz → False := fun b B base sz h => by unfold mE at h; split at h <;> cases h
  refine ⟨fun b x hx => ?_, fun b b' B base sz base' sz' h => (nol _ _ _ _ h).elim, fun b hb => ?_, fun b B base sz h => (nol _ _ _ _ h).elim, fun B o h => h, fun b B base sz x o h => (nol _ _ _ _ h).elim, rfl, rfl, rfl, Nat.le_refl _⟩
  · have hx : T5.at (T5.all (none : Option Blk)) b = some x := hx
    simp [T5.at, T5.all] at hx
  · have hb : (BId.of 64).val ≤ b.val := hb
    rw [BId.val_of 64 (by omega)] at hb
    unfold mE; rw [if_neg (by omega)]
theorem HRel.all_below {w w' : World} {m : M} {h : Hp} (r : HRel (allG w) m h w') : Below w.heap.size w w' :=
  ⟨r.os, r.tape, r.output, r.size, fun k hk => by
    have : w.heap[k]? = some w.heap[k] := by simp [hk]
    rw [this]; exact r.gh k _ this⟩
/-- a call that is handed nothing but data -/
theorem call_closed {P : Program} {cf : CallF} (hcf : CallOk P cf) {f : FuncId} {args : List V} {args' : List Value} (ra : LRel mE args args') {K : V → Hp → Bool} (e : cf f args hE K = true) (w : World) :
    Calls P f args'.toArray w fun en w' => Below w.heap.size w w' ∧ ∃ v v' h' m', en = .returned v' ∧ VRel m' v v' ∧ K v h' = true := by
  refine ((hcf f args hE K e).2 (allG w) mE w args' (hrE w) gE ra).mono fun en w' hr => ?_
  cases en with
  | returned v' =>
    obtain ⟨v, h', m', x, rv, hh, hK⟩ := hr
    exact ⟨hh.all_below, v, v', h', m', rfl, rv, hK⟩
  | _ => exact hr.elim

/-- nothing told -/
def T1 : Told := ⟨fun _ => none, fun _ _ => false⟩
theorem told1 (P : Program) : ToldOk P T1 := by
  refine ⟨fun f s h => ?_, fun f l h => ?_⟩
  · cases h
  · cases h
end
end Go.Ev
