/-
  The evaluator: regions whose order is drawn.
-/
import Derived.Test.YtljfidiaocakjaaGreatDoorEvC
import Derived.Orders
set_option linter.unusedVariables false
set_option linter.unusedSimpArgs false
namespace Go.Ev
noncomputable section

-- the temporaries an operation looks at
theorem evs_congr {tm tm2 : Tm} : ∀ {l : List Operand}, (∀ x ∈ l, ev x tm = ev x tm2) → evs l tm = evs l tm2
  | [], _ => rfl
  | x :: l, h => by
    funext K
    show ev x tm (fun v => evs l tm fun vs => K (v :: vs)) = ev x tm2 (fun v => evs l tm2 fun vs => K (v :: vs))
    rw [h x (by simp), evs_congr fun y hy => h y (by simp [hy])]
theorem partsV_congr {tm tm2 : Tm} : ∀ {l : List (Nat × Operand)}, (∀ p ∈ l, ev p.2 tm = ev p.2 tm2) → partsV l tm = partsV l tm2
  | [], _ => rfl
  | (i, x) :: l, h => by
    funext K
    show ev x tm (fun v => partsV l tm fun vs => K ((i, v) :: vs)) = ev x tm2 (fun v => partsV l tm2 fun vs => K ((i, v) :: vs))
    rw [h (i, x) (by simp), partsV_congr fun y hy => h y (by simp [hy])]
theorem optV_congr {tm tm2 : Tm} {x : Option Operand} (h : ∀ y, x = some y → ev y tm = ev y tm2) : optV x tm = optV x tm2 := by
  cases x with
  | none => rfl
  | some y =>
    funext K
    show ev y tm (fun v => K (some v)) = ev y tm2 (fun v => K (some v))
    rw [h y rfl]
theorem operK_congr {P : Program} {cf : CallF} {tm tm2 : Tm} {op : Op} (h : ∀ x ∈ op.operands, ev x tm = ev x tm2) : operK cf op P tm = operK cf op P tm2 := by
  funext ds h0 K
  cases op
  case build t ps =>
    have := partsV_congr (tm := tm) (tm2 := tm2) (l := ps.toList) fun p hp => h p.2 (by simp only [Op.operands]; simp; exact ⟨p.1, by simpa using hp⟩)
    show partsV ps.toList tm _ = partsV ps.toList tm2 _
    rw [this]
  case buildSlice t n ps =>
    have := partsV_congr (tm := tm) (tm2 := tm2) (l := ps.toList) fun p hp => h p.2 (by simp only [Op.operands]; simp; exact ⟨p.1, by simpa using hp⟩)
    show partsV ps.toList tm _ = partsV ps.toList tm2 _
    rw [this]
  case makeFunc f a c =>
    have h1 := evs_congr (tm := tm) (tm2 := tm2) (l := a.toList) fun x hx => h x (by simp only [Op.operands]; simp; exact .inl (by simpa using hx))
    have h2 := evs_congr (tm := tm) (tm2 := tm2) (l := c.toList) fun x hx => h x (by simp only [Op.operands]; simp; exact .inr (by simpa using hx))
    show evs a.toList tm (fun a => evs c.toList tm fun c => K (.fn f a c) ds h0) = evs a.toList tm2 (fun a => evs c.toList tm2 fun c => K (.fn f a c) ds h0)
    rw [h1, h2]
  case makeMap t r =>
    cases r with
    | none => rfl
    | some x =>
      have := h x (by simp [Op.operands])
      show grd (mapTy P t) (ev x tm _) = grd (mapTy P t) (ev x tm2 _)
      rw [this]
  case slice t x lo hi mx =>
    have h1 := h x (by simp [Op.operands])
    have h2 := optV_congr (tm := tm) (tm2 := tm2) (x := lo) fun y hy => h y (by subst hy; simp [Op.operands])
    have h3 := optV_congr (tm := tm) (tm2 := tm2) (x := hi) fun y hy => h y (by subst hy; simp [Op.operands])
    have h4 := optV_congr (tm := tm) (tm2 := tm2) (x := mx) fun y hy => h y (by subst hy; simp [Op.operands])
    show ev x tm (fun x => optV lo tm fun lo => optV hi tm fun hi => optV mx tm fun mx => sliceK P t x lo hi mx fun v => K v ds h0) = ev x tm2 (fun x => optV lo tm2 fun lo => optV hi tm2 fun hi => optV mx tm2 fun mx => sliceK P t x lo hi mx fun v => K v ds h0)
    rw [h1, h2, h3, h4]
  case call c =>
    obtain ⟨callee, args, ts⟩ := c
    have h1 := evs_congr (tm := tm) (tm2 := tm2) (l := args.toList) fun x hx => h x (by simp only [Op.operands, Call.operands]; simp; exact .inr (by simpa using hx))
    cases callee with
    | value f =>
      have h2 := h f (by simp [Op.operands, Call.operands])
      show ev f tm (fun x => evs args.toList tm fun vs => calleeK x vs fun f l => cf f l h0 fun v h => K v ds h) = ev f tm2 (fun x => evs args.toList tm2 fun vs => calleeK x vs fun f l => cf f l h0 fun v h => K v ds h)
      rw [h1, h2]
    | invoke r n => rfl
    | builtin b =>
      show evs args.toList tm _ = evs args.toList tm2 _
      rw [h1]
  case defer c =>
    obtain ⟨callee, args, ts⟩ := c
    have h1 := evs_congr (tm := tm) (tm2 := tm2) (l := args.toList) fun x hx => h x (by simp only [Op.operands, Call.operands]; simp; exact .inr (by simpa using hx))
    cases callee with
    | value f =>
      have h2 := h f (by simp [Op.operands, Call.operands])
      show ev f tm (fun x => evs args.toList tm fun vs => calleeK x vs fun f l => K nilT (⟨f, l⟩ :: ds) h0) = ev f tm2 (fun x => evs args.toList tm2 fun vs => calleeK x vs fun f l => K nilT (⟨f, l⟩ :: ds) h0)
      rw [h1, h2]
    | invoke r n => rfl
    | builtin b => rfl
  case pick c a b =>
    have h1 := h c (by simp [Op.operands])
    have h2 := h a (by simp [Op.operands])
    have h3 := h b (by simp [Op.operands])
    show ev c tm (fun c => onBool c fun c => alt c (ev a tm fun v => K v ds h0) (ev b tm fun v => K v ds h0)) = ev c tm2 (fun c => onBool c fun c => alt c (ev a tm2 fun v => K v ds h0) (ev b tm2 fun v => K v ds h0))
    rw [h1, h2, h3]
  case insert t m k x =>
    have h1 := h m (by simp [Op.operands])
    have h2 := h k (by simp [Op.operands])
    have h3 := h x (by simp [Op.operands])
    show ev m tm (fun m => ev k tm fun k => ev x tm fun x => mapUpdateK P t m k x h0 fun h => K nilT ds h) = ev m tm2 (fun m => ev k tm2 fun k => ev x tm2 fun x => mapUpdateK P t m k x h0 fun h => K nilT ds h)
    rw [h1, h2, h3]
  case mapUpdate t m k x =>
    have h1 := h m (by simp [Op.operands])
    have h2 := h k (by simp [Op.operands])
    have h3 := h x (by simp [Op.operands])
    show ev m tm (fun m => ev k tm fun k => ev x tm fun x => mapUpdateK P t m k x h0 fun h => K nilT ds h) = ev m tm2 (fun m => ev k tm2 fun k => ev x tm2 fun x => mapUpdateK P t m k x h0 fun h => K nilT ds h)
    rw [h1, h2, h3]
  case store t p x =>
    have h1 := h p (by simp [Op.operands])
    have h2 := h x (by simp [Op.operands])
    show ev p tm (fun p => ev x tm fun v => storeK P t h0 p v fun h => K nilT ds h) = ev p tm2 (fun p => ev x tm2 fun v => storeK P t h0 p v fun h => K nilT ds h)
    rw [h1, h2]
  case binOp op t x y yt =>
    have h1 := h x (by simp [Op.operands])
    have h2 := h y (by simp [Op.operands])
    show ev x tm (fun a => ev y tm fun b => binK a b op t x y P fun v => K v ds h0) = ev x tm2 (fun a => ev y tm2 fun b => binK a b op t x y P fun v => K v ds h0)
    rw [h1, h2]
  case makeSlice t x y =>
    have h1 := h x (by simp [Op.operands])
    have h2 := h y (by simp [Op.operands])
    show ev x tm (fun l => ev y tm fun c => makeSliceK P t l c h0 fun v h => K v ds h) = ev x tm2 (fun l => ev y tm2 fun c => makeSliceK P t l c h0 fun v h => K v ds h)
    rw [h1, h2]
  case indexAddr t x y =>
    have h1 := h x (by simp [Op.operands])
    have h2 := h y (by simp [Op.operands])
    show ev x tm (fun x => ev y tm fun i => indexAddrK P t x i fun v => K v ds h0) = ev x tm2 (fun x => ev y tm2 fun i => indexAddrK P t x i fun v => K v ds h0)
    rw [h1, h2]
  case index t x y =>
    have h1 := h x (by simp [Op.operands])
    have h2 := h y (by simp [Op.operands])
    show ev x tm (fun x => ev y tm fun i => indexK P t x i fun v => K v ds h0) = ev x tm2 (fun x => ev y tm2 fun i => indexK P t x i fun v => K v ds h0)
    rw [h1, h2]
  case lookup t x y ok =>
    have h1 := h x (by simp [Op.operands])
    have h2 := h y (by simp [Op.operands])
    show ev x tm (fun m => ev y tm fun k => lookupK P t m k ok h0 fun v => K v ds h0) = ev x tm2 (fun m => ev y tm2 fun k => lookupK P t m k ok h0 fun v => K v ds h0)
    rw [h1, h2]
  case makeInterface t x =>
    have h1 := h x (by simp [Op.operands])
    show grd (ifcT P t) (ev x tm fun v => K (.ifc t v) ds h0) = grd (ifcT P t) (ev x tm2 fun v => K (.ifc t v) ds h0)
    rw [h1]
  case move x => exact congrFun (h x (by simp [Op.operands])) _
  case assign x => exact congrFun (h x (by simp [Op.operands])) _
  case box t x => exact congrFun (h x (by simp [Op.operands])) _
  case load t x => exact congrFun (h x (by simp [Op.operands])) _
  case nilCheck x => exact congrFun (h x (by simp [Op.operands])) _
  case unOp op t x => exact congrFun (h x (by simp [Op.operands])) _
  case convert s d x => exact congrFun (h x (by simp [Op.operands])) _
  case fieldAddr t x f => exact congrFun (h x (by simp [Op.operands])) _
  case field t x f => exact congrFun (h x (by simp [Op.operands])) _
  case range t x => exact congrFun (h x (by simp [Op.operands])) _
  case next x s => exact congrFun (h x (by simp [Op.operands])) _
  case entry x => exact congrFun (h x (by simp [Op.operands])) _
  case extract x i => exact congrFun (h x (by simp [Op.operands])) _
  all_goals rfl

-- values that are the same
def eqCap (a b : Cap) : Bool := Cap.rec (motive := fun _ => Bool) (fun n => Cap.rec (motive := fun _ => Bool) (fun m => Nat.beq n m) (fun _ => false) b) (fun n => Cap.rec (motive := fun _ => Bool) (fun _ => false) (fun m => Nat.beq n m) b) a
theorem eqCap_eq {a b : Cap} (h : eqCap a b = true) : a = b := by
  cases a <;> cases b <;> first | (have := Nat.eq_of_beq_eq_true h; subst this; rfl) | cases h
def eqId (a b : BId) : Bool := Nat.beq a.val b.val
theorem eqId_eq {a b : BId} (h : eqId a b = true) : a = b := BId.val_inj (Nat.eq_of_beq_eq_true h)
def eqFn (a b : Fn) : Bool := Fn.rec (motive := fun _ => Bool) (fun n => Fn.rec (motive := fun _ => Bool) (fun m => Nat.beq n m) (fun _ => false) (fun _ _ => false) (fun _ _ _ _ => false) (fun _ => false) b) (fun _ => false) (fun _ _ => false) (fun _ _ _ _ => false) (fun _ => false) a
theorem eqFn_eq {a b : Fn} (h : eqFn a b = true) : a = b := by
  cases a with
  | func n => cases b with
    | func m => have : n = m := Nat.eq_of_beq_eq_true h; subst this; rfl
    | _ => cases h
  | _ => cases h
def eqN (l : List Nat) (u : V) : Bool := onStr u (eqL l)
def isNilp (u : V) : Bool := V.rec (motive_1 := fun _ => Bool) (motive_2 := fun _ => Bool) (fun _ _ => false) (fun _ => false) (fun _ => false) (fun _ _ => false) true (fun _ _ _ _ => false) false false (fun _ => false) false (fun _ _ _ _ _ => false) false (fun _ _ _ => false) false (fun _ _ => false) (fun _ _ => false) false (fun _ _ _ _ => false) u
def isNils (u : V) : Bool := V.rec (motive_1 := fun _ => Bool) (motive_2 := fun _ => Bool) (fun _ _ => false) (fun _ => false) (fun _ => false) (fun _ _ => false) false (fun _ _ _ _ => false) true false (fun _ => false) false (fun _ _ _ _ _ => false) false (fun _ _ _ => false) false (fun _ _ => false) (fun _ _ => false) false (fun _ _ _ _ => false) u
def isEmp (u : V) : Bool := V.rec (motive_1 := fun _ => Bool) (motive_2 := fun _ => Bool) (fun _ _ => false) (fun _ => false) (fun _ => false) (fun _ _ => false) false (fun _ _ _ _ => false) false true (fun _ => false) false (fun _ _ _ _ _ => false) false (fun _ _ _ => false) false (fun _ _ => false) (fun _ _ => false) false (fun _ _ _ _ => false) u
def isNilm (u : V) : Bool := V.rec (motive_1 := fun _ => Bool) (motive_2 := fun _ => Bool) (fun _ _ => false) (fun _ => false) (fun _ => false) (fun _ _ => false) false (fun _ _ _ _ => false) false false (fun _ => false) true (fun _ _ _ _ _ => false) false (fun _ _ _ => false) false (fun _ _ => false) (fun _ _ => false) false (fun _ _ _ _ => false) u
def isNilf (u : V) : Bool := V.rec (motive_1 := fun _ => Bool) (motive_2 := fun _ => Bool) (fun _ _ => false) (fun _ => false) (fun _ => false) (fun _ _ => false) false (fun _ _ _ _ => false) false false (fun _ => false) false (fun _ _ _ _ _ => false) true (fun _ _ _ => false) false (fun _ _ => false) (fun _ _ => false) false (fun _ _ _ _ => false) u
def isNili (u : V) : Bool := V.rec (motive_1 := fun _ => Bool) (motive_2 := fun _ => Bool) (fun _ _ => false) (fun _ => false) (fun _ => false) (fun _ _ => false) false (fun _ _ _ _ => false) false false (fun _ => false) false (fun _ _ _ _ _ => false) false (fun _ _ _ => false) true (fun _ _ => false) (fun _ _ => false) false (fun _ _ _ _ => false) u
def onIfc (v : V) (f : Nat → V → Bool) : Bool := V.rec (motive_1 := fun _ => Bool) (motive_2 := fun _ => Bool) (fun _ _ => false) (fun _ => false) (fun _ => false) (fun _ _ => false) false (fun _ _ _ _ => false) false false (fun _ => false) false (fun _ _ _ _ _ => false) false (fun t v _ => f t v) false (fun _ _ => false) (fun _ _ => false) false (fun _ _ _ _ => false) v
theorem onIfc_inv {v : V} {f : Nat → V → Bool} (h : onIfc v f = true) : ∃ t u, v = .ifc t u ∧ f t u = true := by
  cases v <;> first | exact ⟨_, _, rfl, h⟩ | cases h
def eqB1 (a b : Bool) : Bool := Bool.rec (motive := fun _ => Bool) (not b) b a
theorem eqB1_eq {a b : Bool} (h : eqB1 a b = true) : a = b := by cases a <;> cases b <;> first | rfl | cases h
def eqV (v : V) : V → Bool := V.rec (motive_1 := fun _ => V → Bool) (motive_2 := fun _ => List V → Bool)
  (fun k n u => onInt u fun k' n' => grd (kindOk k k') (eqI n n')) (fun b u => onBool u (eqB1 b)) eqN (fun b o u => onPtr u fun b' o' => grd (eqId b b') (Nat.beq o o')) isNilp
  (fun b o n c u => onSl u fun b' o' n' c' => grd (eqId b b') (grd (Nat.beq o o') (grd (Nat.beq n n') (eqCap c c')))) isNils isEmp (fun b u => onMp u (eqId b)) isNilm
  (fun f _ _ ia ic u => onFn u fun f' a' c' => grd (eqFn f f') (grd (ia a') (ic c'))) isNilf (fun t _ ih u => onIfc u fun t' v' => grd (Nat.beq t t') (ih v')) isNili (fun _ ih u => onAgg u ih) (fun _ ih u => onTup u ih)
  (fun l => List.rec (motive := fun _ => Bool) true (fun _ _ _ => false) l) (fun _ _ ih it l => List.rec (motive := fun _ => Bool) false (fun u k _ => grd (ih u) (it k)) l) v
def eqVs (l : List V) : List V → Bool := List.rec (motive := fun _ => List V → Bool) (fun l => List.rec (motive := fun _ => Bool) true (fun _ _ _ => false) l) (fun v _ it l => List.rec (motive := fun _ => Bool) false (fun u k _ => grd (eqV v u) (it k)) l) l
theorem eqVs_is (l : List V) : (V.rec_1 (motive_1 := fun _ => V → Bool) (motive_2 := fun _ => List V → Bool)
  (fun k n u => onInt u fun k' n' => grd (kindOk k k') (eqI n n')) (fun b u => onBool u (eqB1 b)) eqN (fun b o u => onPtr u fun b' o' => grd (eqId b b') (Nat.beq o o')) isNilp
  (fun b o n c u => onSl u fun b' o' n' c' => grd (eqId b b') (grd (Nat.beq o o') (grd (Nat.beq n n') (eqCap c c')))) isNils isEmp (fun b u => onMp u (eqId b)) isNilm
  (fun f _ _ ia ic u => onFn u fun f' a' c' => grd (eqFn f f') (grd (ia a') (ic c'))) isNilf (fun t _ ih u => onIfc u fun t' v' => grd (Nat.beq t t') (ih v')) isNili (fun _ ih u => onAgg u ih) (fun _ ih u => onTup u ih)
  (fun l => List.rec (motive := fun _ => Bool) true (fun _ _ _ => false) l) (fun _ _ ih it l => List.rec (motive := fun _ => Bool) false (fun u k _ => grd (ih u) (it k)) l) l) = eqVs l := by
  induction l with
  | nil => rfl
  | cons v l ih =>
    funext k
    cases k with
    | nil => rfl
    | cons u k => exact congrArg (grd (eqV v u)) (congrFun ih k)
mutual
theorem eqV_eq : ∀ {v u : V}, eqV v u = true → v = u
  | .int k n, u, h => by
    obtain ⟨k', n', rfl, h1⟩ := onInt_inv (show onInt u _ = true from h)
    obtain ⟨h2, h3⟩ := grd_inv h1
    have h2 : k = k' := of_decide_eq_true h2
    rw [eqI_eq] at h3
    have h3 : n = n' := by simpa using h3
    rw [h2, h3]
  | .bool b, u, h => by
    obtain ⟨b', rfl, h1⟩ := onBool_inv (show onBool u _ = true from h)
    rw [eqB1_eq h1]
  | .str l, u, h => by
    obtain ⟨l', rfl, h1⟩ := onStr_inv (show onStr u _ = true from h)
    rw [eqL_eq] at h1
    have h1 : l = l' := by simpa using h1
    rw [h1]
  | .ptr b o, u, h => by
    obtain ⟨b', o', rfl, h1⟩ := onPtr_inv (show onPtr u _ = true from h)
    obtain ⟨h2, h3⟩ := grd_inv h1
    rw [eqId_eq h2, Nat.eq_of_beq_eq_true h3]
  | .nilp, u, h => by cases u <;> first | rfl | cases h
  | .sl b o n c, u, h => by
    obtain ⟨b', o', n', c', rfl, h1⟩ := onSl_inv (show onSl u _ = true from h)
    obtain ⟨h2, h3⟩ := grd_inv h1
    obtain ⟨h4, h5⟩ := grd_inv h3
    obtain ⟨h6, h7⟩ := grd_inv h5
    rw [eqId_eq h2, Nat.eq_of_beq_eq_true h4, Nat.eq_of_beq_eq_true h6, eqCap_eq h7]
  | .nils, u, h => by cases u <;> first | rfl | cases h
  | .emp, u, h => by cases u <;> first | rfl | cases h
  | .mp b, u, h => by
    obtain ⟨b', rfl, h1⟩ := onMp_inv (show onMp u _ = true from h)
    rw [eqId_eq h1]
  | .nilm, u, h => by cases u <;> first | rfl | cases h
  | .fn f a c, u, h => by
    obtain ⟨f', a', c', rfl, h1⟩ := onFn_inv (show onFn u _ = true from h)
    obtain ⟨h2, h3⟩ := grd_inv h1
    obtain ⟨h4, h5⟩ := grd_inv h3
    rw [eqVs_is] at h4 h5
    rw [eqFn_eq h2, eqVs_eq h4, eqVs_eq h5]
  | .nilf, u, h => by cases u <;> first | rfl | cases h
  | .ifc t v, u, h => by
    obtain ⟨t', v', rfl, h1⟩ := onIfc_inv (show onIfc u _ = true from h)
    obtain ⟨h2, h3⟩ := grd_inv h1
    rw [Nat.eq_of_beq_eq_true h2, eqV_eq h3]
  | .nili, u, h => by cases u <;> first | rfl | cases h
  | .agg l, u, h => by
    obtain ⟨l', rfl, h1⟩ := onAgg_inv (show onAgg u _ = true from h)
    rw [eqVs_is] at h1
    rw [eqVs_eq h1]
  | .tup l, u, h => by
    obtain ⟨l', rfl, h1⟩ := onTup_inv (show onTup u _ = true from h)
    rw [eqVs_is] at h1
    rw [eqVs_eq h1]
theorem eqVs_eq : ∀ {l k : List V}, eqVs l k = true → l = k
  | [], k, h => by cases k <;> first | rfl | cases h
  | v :: l, k, h => by
    cases k with
    | nil => cases h
    | cons u k =>
      obtain ⟨h1, h2⟩ := grd_inv (show grd (eqV v u) (eqVs l k) = true from h)
      rw [eqV_eq h1, eqVs_eq h2]
end
end
end Go.Ev
namespace Go.Ev
noncomputable section

theorem O8.set_set {α : Type} (o : O8 α) (d : D8) (x y : α) : (o.set d x).set d y = o.set d y := by cases o; cases d <;> rfl
theorem O8.set_self {α : Type} (o : O8 α) (d : D8) : o.set d (o.at d) = o := by cases o; cases d <;> rfl
theorem T5.set_set {α : Type} (t : T5 α) (b : BId) (x y : α) : T5.set (T5.set t b x) b y = T5.set t b y := by
  simp [T5.set, O8.set_set]
theorem T5.set_self {α : Type} (t : T5 α) (b : BId) : T5.set t b (T5.at t b) = t := by
  simp [T5.set, T5.at, O8.set_self]
theorem Hp.set_set (h : Hp) (b : BId) (x y : Option Blk) : (h.set b x).set b y = h.set b y := by
  simp [Hp.set, T5.set_set]
theorem Hp.set_self {h : Hp} {b : BId} (e : h.at b = none) : h.set b none = h := by
  have := T5.set_self h.bl b
  simp only [Hp.at] at e
  rw [e] at this
  simp [Hp.set, this]

def gset (g : Nat → Option Obj) (B : Nat) (x : Option Obj) : Nat → Option Obj := fun b => if b = B then x else g b
@[simp] theorem gset_same (g : Nat → Option Obj) (B : Nat) (x : Option Obj) : gset g B x B = x := by simp [gset]
theorem gset_ne (g : Nat → Option Obj) {B b : Nat} (x : Option Obj) (h : b ≠ B) : gset g B x b = g b := by simp [gset, h]
theorem gset_gset (g : Nat → Option Obj) (B : Nat) (x y : Option Obj) : gset (gset g B x) B y = gset g B y := by
  funext b; by_cases h : b = B <;> simp [gset, h]
def Fr.over (G : Fr) (g : Nat → Option Obj) : Fr := ⟨G.w0, fun B => match g B with | some o => some o | none => G.gh B⟩
theorem over_some {G : Fr} {g : Nat → Option Obj} {B : Nat} {o : Obj} (h : g B = some o) : (G.over g).gh B = some o := by simp [Fr.over, h]
theorem over_none {G : Fr} {g : Nat → Option Obj} {B : Nat} (h : g B = none) : (G.over g).gh B = G.gh B := by simp [Fr.over, h]
def noG : Nat → Option Obj := fun _ => none
theorem over_noG (G : Fr) : G.over noG = G := by cases G; rfl
section
variable {G : Fr} {g : Nat → Option Obj} {m : M} {h : Hp} {w : World}
theorem HRel.under (r : HRel (G.over g) m h w) (gg : ∀ B o, g B = some o → G.gh B = none) : HRel G m h w := by
  have key : ∀ B o, G.gh B = some o → g B = none := fun B o hB => by
    cases hg : g B with
    | none => rfl
    | some o' => rw [gg B o' hg] at hB; cases hB
  exact ⟨r.blk, r.inj, r.nx, r.lt, fun B o hB => r.gh B o (by rw [over_none (key B o hB)]; exact hB), fun b B bs s x o hm hx hB => r.gr b B bs s x o hm hx (by rw [over_none (key B o hB)]; exact hB),
    r.os, r.tape, r.output, r.size⟩
/-- a block is taken out -/
theorem HRel.takeOut (r : HRel (G.over g) m h w) {b : BId} {x : Blk} (hb : h.at b = some x) (hro : x.ro = false) :
    ∃ B base sz o, m b = .live B base sz ∧ BRel m base sz x o ∧ w.heap[B]? = some o ∧ g B = none ∧ G.gh B = none ∧ HRel (G.over (gset g B (some o))) m (h.set b none) w := by
  obtain ⟨B, base, sz, o, hm, hw, hr⟩ := r.blk b x hb
  have hf := r.free hm hb hro
  have hg : g B = none := by
    cases hg : g B with
    | none => rfl
    | some o' => rw [over_some hg] at hf; cases hf
  have hG : G.gh B = none := by rw [over_none hg] at hf; exact hf
  refine ⟨B, base, sz, o, hm, hr, hw, hg, hG, ⟨fun y z hy => ?_, r.inj, r.nx, r.lt, fun C u hC => ?_, fun y C bs s z u hy hz hC => ?_, r.os, r.tape, r.output, r.size⟩⟩
  · by_cases hyb : y = b
    · subst hyb; simp at hy
    · rw [Hp.at_set_ne _ _ hyb] at hy; exact r.blk y z hy
  · by_cases hCB : C = B
    · subst hCB
      rw [over_some (gset_same g _ (some o))] at hC
      cases hC; exact hw
    · apply r.gh
      rw [← hC]
      simp [Fr.over, gset_ne _ _ hCB]
  · by_cases hyb : y = b
    · subst hyb; simp at hz
    · rw [Hp.at_set_ne _ _ hyb] at hz
      have hCB : C ≠ B := fun e => hyb (r.inj y b C bs s base sz hy (e ▸ hm))
      refine r.gr y C bs s z u hy hz ?_
      rw [← hC]
      simp [Fr.over, gset_ne _ _ hCB]
/-- and put in again -/
theorem HRel.putIn (r : HRel (G.over g) m h w) {b : BId} {B base sz : Nat} {o : Obj} {x : Blk} (hm : m b = .live B base sz) (hg : g B = some o) (hG : G.gh B = none) (hx : BRel m base sz x o) :
    HRel (G.over (gset g B none)) m (h.set b (some x)) w := by
  have hw : w.heap[B]? = some o := r.gh B o (over_some hg)
  refine ⟨fun y z hy => ?_, r.inj, r.nx, r.lt, fun C u hC => ?_, fun y C bs s z u hy hz hC => ?_, r.os, r.tape, r.output, r.size⟩
  · by_cases hyb : y = b
    · subst hyb; simp at hy; subst hy; exact ⟨B, base, sz, o, hm, hw, hx⟩
    · rw [Hp.at_set_ne _ _ hyb] at hy; exact r.blk y z hy
  · by_cases hCB : C = B
    · subst hCB
      rw [over_none (gset_same g _ none), hG] at hC
      cases hC
    · apply r.gh
      rw [← hC]
      simp [Fr.over, gset_ne _ _ hCB]
  · by_cases hyb : y = b
    · subst hyb
      rw [hm] at hy; cases hy
      rw [over_none (gset_same g _ none), hG] at hC
      cases hC
    · rw [Hp.at_set_ne _ _ hyb] at hz
      have hCB : C ≠ B := fun e => hyb (r.inj y b C bs s base sz hy (e ▸ hm))
      refine r.gr y C bs s z u hy hz ?_
      rw [← hC]
      simp [Fr.over, gset_ne _ _ hCB]
/-- a number is set aside -/
theorem HRel.reserve (r : HRel G m h w) {y : BId} (hy : y.val = h.nx.val + 1) : HRel G m { h with nx := y } w :=
  ⟨r.blk, r.inj, fun b hb => r.nx b (by have : y.val ≤ b.val := hb; omega), r.lt, r.gh, r.gr, r.os, r.tape, r.output, r.size⟩
/-- a block is made for a number that was set aside; it stands aside -/
theorem HRel.newGhost (r : HRel (G.over g) m h w) {b : BId} (hu : m b = .un) (hlt : b.val < h.nx.val) (base sz : Nat) (o : Obj) :
    HRel (G.over (gset g w.heap.size (some o))) (m.set b (.live w.heap.size base sz)) h (w.alloc o) ∧ Le m (m.set b (.live w.heap.size base sz)) ∧ g w.heap.size = none ∧ G.gh w.heap.size = none := by
  have hle : Le m (m.set b (.live w.heap.size base sz)) := M.le_set hu
  have hat := r.at_un hu
  have hno : (G.over g).gh w.heap.size = none := by
    cases hc : (G.over g).gh w.heap.size with
    | none => rfl
    | some u => have := r.gh _ u hc; simp at this
  have hg : g w.heap.size = none := by
    cases hg : g w.heap.size with
    | none => rfl
    | some u => rw [over_some hg] at hno; cases hno
  have hG : G.gh w.heap.size = none := by rw [over_none hg] at hno; exact hno
  have hold : ∀ k, k < w.heap.size → (w.alloc o).heap[k]? = w.heap[k]? := fun k hk => by
    show (w.heap.push o)[k]? = _
    rw [Array.getElem?_push, if_neg (by omega)]
  refine ⟨⟨fun z u hz => ?_, fun z z' C bs s bs' s' hz hz' => ?_, fun z hz => ?_, fun z C bs s hz => ?_, fun C u hC => ?_, fun z C bs s u v hz hu' hv => ?_, r.os, r.tape, r.output, Nat.le_trans r.size (by simp)⟩, hle, hg, hG⟩
  · have hzb : z ≠ b := fun e => by subst e; rw [hat] at hz; cases hz
    obtain ⟨C, bs, s, u', hmz, hwo, hr⟩ := r.blk z u hz
    exact ⟨C, bs, s, u', by rw [M.set_ne _ _ hzb]; exact hmz, by rw [hold C (r.lt z C bs s hmz)]; exact hwo, hr.mono hle⟩
  · by_cases hzn : z = b
    · by_cases hzn' : z' = b
      · rw [hzn, hzn']
      · subst hzn
        rw [M.set_same] at hz; cases hz
        rw [M.set_ne _ _ hzn'] at hz'
        exact absurd (r.lt _ _ _ _ hz') (by omega)
    · by_cases hzn' : z' = b
      · subst hzn'
        rw [M.set_same] at hz'; cases hz'
        rw [M.set_ne _ _ hzn] at hz
        exact absurd (r.lt _ _ _ _ hz) (by omega)
      · rw [M.set_ne _ _ hzn] at hz; rw [M.set_ne _ _ hzn'] at hz'
        exact r.inj z z' C bs s bs' s' hz hz'
  · have hne : z ≠ b := fun e => by subst e; omega
    rw [M.set_ne _ _ hne]; exact r.nx z hz
  · by_cases hzn : z = b
    · subst hzn; rw [M.set_same] at hz; cases hz; simp
    · rw [M.set_ne _ _ hzn] at hz; have := r.lt z C bs s hz; simp; omega
  · by_cases hC2 : C = w.heap.size
    · subst hC2
      rw [over_some (gset_same g _ (some o))] at hC
      cases hC
      show (w.heap.push o)[w.heap.size]? = _
      simp
    · have h1 : (G.over g).gh C = some u := by rw [← hC]; simp [Fr.over, gset_ne _ _ hC2]
      have h2 := r.gh C u h1
      have hlt2 : C < w.heap.size := by
        rcases Nat.lt_or_ge C w.heap.size with h | h
        · exact h
        · simp [Array.getElem?_eq_none h] at h2
      rw [hold C hlt2]; exact h2
  · have hzb : z ≠ b := fun e => by subst e; rw [hat] at hu'; cases hu'
    rw [M.set_ne _ _ hzb] at hz
    have hC2 : C ≠ w.heap.size := by have := r.lt z C bs s hz; omega
    refine r.gr z C bs s u v hz hu' ?_
    rw [← hv]; simp [Fr.over, gset_ne _ _ hC2]
end
end
end Go.Ev
namespace Go.Ev
noncomputable section

/-- an operation, its place, and (as bits) all that must be done before it -/
structure It where
  i : Nat
  bf : Nat
  o : Oper
def tz (m i : Nat) : Bool := Nat.beq (Nat.land m (Nat.pow 2 i)) 0
theorem tz_eq (m i : Nat) : tz m i = !m.testBit i := by
  have h : Nat.land m (Nat.pow 2 i) = m &&& 2 ^ i := rfl
  unfold tz
  rw [h]
  have hb : ∀ j, (m &&& 2 ^ i).testBit j = (m.testBit j && decide (i = j)) := fun j => by rw [Nat.testBit_and, Nat.testBit_two_pow]
  cases hm : m.testBit i with
  | false =>
    have : m &&& 2 ^ i = 0 := by
      apply Nat.eq_of_testBit_eq
      intro j
      rw [hb, Nat.zero_testBit]
      by_cases hij : i = j
      · subst hij; rw [hm]; rfl
      · simp [hij]
    rw [this]; rfl
  | true =>
    have h1 := hb i
    rw [hm] at h1
    cases hc : (m &&& 2 ^ i).beq 0 with
    | false => rfl
    | true =>
      have : m &&& 2 ^ i = 0 := Nat.eq_of_beq_eq_true hc
      rw [this] at h1
      simp at h1
def getN (acc : List Nat) : Nat → Nat := List.rec (motive := fun _ => Nat → Nat) (fun _ => 0) (fun a _ ih n => Nat.rec a (fun n _ => ih n) n) acc
theorem getN_eq : ∀ (acc : List Nat) (n : Nat), getN acc n = (acc[n]?).getD 0
  | [], n => by simp [getN]
  | a :: l, 0 => rfl
  | a :: l, n + 1 => by
    show getN l n = _
    rw [getN_eq l n]; simp
def edgeM (acc : List Nat) (es : List Edge) : Nat := List.rec (motive := fun _ => Nat) 0 (fun e _ ih => Bool.rec (motive := fun _ => Nat) ih (Nat.lor (Nat.lor (Nat.pow 2 e.on) (getN acc e.on)) ih) (Region.binds .any e)) es
theorem edgeM_bit {acc : List Nat} {j : Nat} : ∀ {es : List Edge}, (edgeM acc es).testBit j = true → ∃ e ∈ es, Region.binds .any e = true ∧ (j = e.on ∨ ((acc[e.on]?).getD 0).testBit j = true)
  | [], h => by simp [edgeM] at h
  | e :: es, h => by
    have h : (Bool.rec (motive := fun _ => Nat) (edgeM acc es) (Nat.lor (Nat.lor (Nat.pow 2 e.on) (getN acc e.on)) (edgeM acc es)) (Region.binds .any e)).testBit j = true := h
    cases hb : Region.binds .any e with
    | false =>
      rw [hb] at h
      obtain ⟨e', h1, h2⟩ := edgeM_bit (es := es) h
      exact ⟨e', by simp [h1], h2⟩
    | true =>
      rw [hb] at h
      have h : ((2 ^ e.on ||| getN acc e.on) ||| edgeM acc es).testBit j = true := h
      rw [Nat.testBit_or, Nat.testBit_or, getN_eq] at h
      simp only [Bool.or_eq_true] at h
      rcases h with (h | h) | h
      · rw [Nat.testBit_two_pow] at h
        exact ⟨e, by simp, hb, .inl (of_decide_eq_true h).symm⟩
      · exact ⟨e, by simp, hb, .inr h⟩
      · obtain ⟨e', h1, h2⟩ := edgeM_bit (es := es) h
        exact ⟨e', by simp [h1], h2⟩
def itemsF (ops : List Oper) : Nat → List Nat → List It := List.rec (motive := fun _ => Nat → List Nat → List It) (fun _ _ => []) (fun o _ ih i acc => ⟨i, edgeM acc o.after.toList, o⟩ :: ih (Nat.add i 1) (acc ++ [edgeM acc o.after.toList])) ops
def itemsOf (ops : Array Oper) : List It := itemsF ops.toList 0 []
def Closed (ops : Array Oper) (listed : Array Bool) : Prop := ∀ (i : Nat) o, ops[i]? = some o → listed.getD i false = true → ∀ e ∈ o.after, Region.binds .any e = true → listed.getD e.on false = true
def MaskOk (ops : Array Oper) (o : Oper) (B : Nat) : Prop := ∀ listed, Closed ops listed → (∀ e ∈ o.after, Region.binds .any e = true → listed.getD e.on false = true) → ∀ j, B.testBit j = true → listed.getD j false = true
theorem items_ok {ops : Array Oper} : ∀ (l : List Oper) (i : Nat) (acc : List Nat), (∀ j, l[j]? = ops[i + j]?) → acc.length = i → (∀ (k : Nat) (B : Nat), acc[k]? = some B → ∃ o, ops[k]? = some o ∧ MaskOk ops o B) →
    (∀ it ∈ itemsF l i acc, i ≤ it.i ∧ ops[it.i]? = some it.o ∧ MaskOk ops it.o it.bf) ∧ (itemsF l i acc).Pairwise (fun x y => x.i < y.i) ∧ (∀ j o, l[j]? = some o → ∃ it ∈ itemsF l i acc, it.i = i + j ∧ it.o = o)
  | [], i, acc, hl, ha, hacc => ⟨(by intro it h; cases h), List.Pairwise.nil, (by simp)⟩
  | o :: l, i, acc, hl, ha, hacc => by
    have hoi : ops[i]? = some o := by have := hl 0; simpa using this.symm
    have hm : MaskOk ops o (edgeM acc o.after.toList) := by
      intro listed hc he j hj
      obtain ⟨e, h1, h2, h3⟩ := edgeM_bit hj
      have h1 : e ∈ o.after := by simpa using h1
      have hon := he e h1 h2
      rcases h3 with rfl | h3
      · exact hon
      · cases hB : acc[e.on]? with
        | none => rw [hB] at h3; simp at h3
        | some B =>
          rw [hB] at h3
          obtain ⟨o', ho', hk⟩ := hacc e.on B hB
          exact hk listed hc (fun e' he' hb' => hc e.on o' ho' hon e' he' hb') j h3
    have e : itemsF (o :: l) i acc = ⟨i, edgeM acc o.after.toList, o⟩ :: itemsF l (i + 1) (acc ++ [edgeM acc o.after.toList]) := rfl
    obtain ⟨h1, h2, h3⟩ := items_ok l (i + 1) (acc ++ [edgeM acc o.after.toList]) (fun j => by have := hl (j + 1); rw [show i + 1 + j = i + (j + 1) by omega, ← this]; simp) (by simp [ha]) (fun k B hB => by
      by_cases hk : k < acc.length
      · rw [List.getElem?_append_left hk] at hB; exact hacc k B hB
      · rw [List.getElem?_append_right (by omega)] at hB
        by_cases hk0 : k - acc.length = 0
        · have : k = i := by omega
          subst this
          rw [hk0] at hB
          simp at hB
          subst hB
          exact ⟨o, hoi, hm⟩
        · rw [List.getElem?_eq_none (by simp; omega)] at hB; cases hB)
    rw [e]
    refine ⟨?_, ?_, ?_⟩
    · intro it hit
      rcases List.mem_cons.1 hit with rfl | hit
      · exact ⟨Nat.le_refl _, hoi, hm⟩
      · obtain ⟨q1, q2⟩ := h1 it hit; exact ⟨by omega, q2⟩
    · refine List.pairwise_cons.2 ⟨fun it hit => ?_, h2⟩
      have := (h1 it hit).1
      show i < it.i
      omega
    · intro j o' hj
      cases j with
      | zero => simp at hj; subst hj; exact ⟨_, List.mem_cons_self .., by simp, rfl⟩
      | succ j =>
        obtain ⟨it, q1, q2, q3⟩ := h3 j o' (by simpa using hj)
        exact ⟨it, List.mem_cons_of_mem _ q1, by omega, q3⟩
theorem items_of (ops : Array Oper) : (∀ it ∈ itemsOf ops, ops[it.i]? = some it.o ∧ MaskOk ops it.o it.bf) ∧ (itemsOf ops).Pairwise (fun x y => x.i < y.i) ∧ (∀ (j : Nat) o, ops[j]? = some o → ∃ it ∈ itemsOf ops, it.i = j ∧ it.o = o) := by
  obtain ⟨h1, h2, h3⟩ := items_ok (ops := ops) ops.toList 0 [] (fun j => by simp) rfl (by intro k B h; simp at h)
  exact ⟨fun it h => (h1 it h).2, h2, fun j o h => by
    obtain ⟨it, q1, q2, q3⟩ := h3 j o (by simpa using h)
    exact ⟨it, q1, by omega, q3⟩⟩
theorem pairwise_inj {l : List It} (h : l.Pairwise (fun x y => x.i < y.i)) {x y : It} (hx : x ∈ l) (hy : y ∈ l) (e : x.i = y.i) : x = y := by
  induction l with
  | nil => cases hx
  | cons z l ih =>
    obtain ⟨h1, h2⟩ := List.pairwise_cons.1 h
    rcases List.mem_cons.1 hx with rfl | hx'
    · rcases List.mem_cons.1 hy with rfl | hy'
      · rfl
      · have := h1 y hy'; omega
    · rcases List.mem_cons.1 hy with rfl | hy'
      · have := h1 x hx'; omega
      · exact ih h2 hx' hy'

/-- bits -/
def maskOf (l : List It) : Nat := List.rec (motive := fun _ => Nat) 0 (fun it _ ih => Nat.lor (Nat.pow 2 it.i) ih) l
theorem maskOf_bit {j : Nat} : ∀ {l : List It}, (maskOf l).testBit j = true ↔ ∃ it ∈ l, it.i = j
  | [] => by simp [maskOf]
  | it :: l => by
    have e : maskOf (it :: l) = 2 ^ it.i ||| maskOf l := rfl
    rw [e, Nat.testBit_or, Bool.or_eq_true, maskOf_bit (l := l), Nat.testBit_two_pow]
    simp
def avail (rm : Nat) (it : It) : Bool := Nat.beq (Nat.land it.bf rm) 0
theorem avail_iff {rm : Nat} {it : It} : avail rm it = true ↔ ∀ j, it.bf.testBit j = true → rm.testBit j = false := by
  have h : Nat.land it.bf rm = it.bf &&& rm := rfl
  unfold avail
  rw [h]
  constructor
  · intro e j hj
    have e : it.bf &&& rm = 0 := Nat.eq_of_beq_eq_true e
    have : (it.bf &&& rm).testBit j = false := by rw [e]; simp
    rw [Nat.testBit_and, hj] at this
    simpa using this
  · intro e
    have : it.bf &&& rm = 0 := by
      apply Nat.eq_of_testBit_eq
      intro j
      rw [Nat.testBit_and, Nat.zero_testBit]
      cases hj : it.bf.testBit j with
      | false => rfl
      | true => rw [e j hj]; rfl
    rw [this]; rfl

-- which ones make a value only, which ones stand aside, which ones make the chain
/-- it makes a value only, or it is told to stand aside -/
def nonch (P : Program) (fm : Nat) (it : It) : Bool := or (pureOp P it.o.op) (not (tz fm it.i))
def storeLike (op : Op) : Bool := match op with | .store _ _ _ => true | _ => false
def allocLike (op : Op) : Bool := match op with | .alloc _ | .box _ _ | .buildSlice _ _ _ | .makeMap _ none => true | _ => false
def subAll (l : List It) (bf : Nat) : Bool := List.rec (motive := fun _ => Bool) true (fun it _ ih => and (not (tz bf it.i)) ih) l
def floatable (op : Op) : Bool := or (storeLike op) (allocLike op)
/-- those that may come later or sooner stand aside, and the rest of the chain -/
def sift (bf : Nat) (l : List It) : Nat → (Nat → List It → Nat) → Nat := List.rec (motive := fun _ => Nat → (Nat → List It → Nat) → Nat) (fun fm K => K fm [])
  (fun x _ ih fm K => Bool.rec (motive := fun _ => Nat) (ih fm fun fm r => K fm (x :: r)) (Bool.rec (motive := fun _ => Nat) (ih fm fun fm r => K fm (x :: r)) (ih (Nat.lor fm (Nat.pow 2 x.i)) K) (floatable x.o.op)) (tz bf x.i)) l
/-- a guess which ones stand aside: the chain so far (its last one first), and their bits -/
def planF (P : Program) (l : List It) : List It → Nat → Nat := List.rec (motive := fun _ => List It → Nat → Nat) (fun _ fm => fm)
  (fun it _ ih ch fm => Bool.rec (motive := fun _ => Nat) (Bool.rec (motive := fun _ => Nat) (Bool.rec (motive := fun _ => Nat)
      (sift it.bf ch fm fun fm r => ih (it :: r) fm)
      (ih ch (Nat.lor fm (Nat.pow 2 it.i))) (allocLike it.o.op)) (ih (it :: ch) fm) (subAll ch it.bf)) (ih ch fm) (pureOp P it.o.op)) l
def fmOf (P : Program) (ops : Array Oper) : Nat := planF P (itemsOf ops) [] 0
def chainOf (P : Program) (ops : Array Oper) : List It := (itemsOf ops).filter fun it => not (nonch P (fmOf P ops) it)
def pairOk (l : List It) : Bool := List.rec (motive := fun _ => Bool) true (fun W r ih => and (List.all r fun x => not (tz x.bf W.i)) ih) l
theorem pairOk_eq : ∀ {l : List It}, pairOk l = true → l.Pairwise (fun x y => y.bf.testBit x.i = true)
  | [], _ => .nil
  | W :: r, h => by
    have h : (List.all r (fun x => not (tz x.bf W.i)) && pairOk r) = true := h
    rw [Bool.and_eq_true] at h
    refine List.pairwise_cons.2 ⟨fun y hy => ?_, pairOk_eq h.2⟩
    have h1 := List.all_eq_true.1 h.1 y hy
    have h1 : (!tz y.bf W.i) = true := h1
    rw [tz_eq] at h1
    simpa using h1
/-- each temporary that an operation looks at was written, if in this region, by one that must be done before it; edges point back -/
def lookOk (ops : Array Oper) (its : List It) (it : It) : Bool := (List.all (it.o.looksAt ops) fun t => List.all its fun jt => match jt.o.dst with
    | some d => or (not (Nat.beq d t)) (not (tz it.bf jt.i))
    | none => true) && List.all it.o.after.toList fun e => or (not (Region.binds .any e)) (Nat.blt e.on it.i)
def statOk (P : Program) (ops : Array Oper) : Bool := and (pairOk (chainOf P ops)) (List.all (itemsOf ops) (lookOk ops (itemsOf ops)))

-- one that stands aside: its block as it was (if there was one), and as it will be
structure FS where
  i : Nat
  o : Oper
  b : BId
  old : Option Blk
  new : Blk
inductive Mk where
  | ptr
  | sl (n : Nat)
  | mp
def mkV (q : Mk) (b : BId) : V := Mk.rec (motive := fun _ => V) (.ptr b 0) (fun n => .sl b 0 n (.ex n)) (.mp b) q
def fcBs (n : Nat) (zs : List V) (len : Nat) (ps : List (Nat × V)) (K : Blk → Mk → Bool) : Bool := replK zs len fun zs => fillK (arrPlace n) ps zs fun cs => K (.cells false cs) (.sl len)
def fcells (P : Program) (op : Op) (tm : Tm) (K : Blk → Mk → Bool) : Bool := match op with
  | .alloc t => optK (zeroT P t) fun z => cellsC z fun cs => K (.cells false cs) .ptr
  | .box _ x => ev x tm fun v => cellsC v fun cs => K (.cells false cs) .ptr
  | .makeMap _ none => K (.map 0 [] []) .mp
  | .buildSlice t len ps => partsV ps.toList tm fun ps => optK (rowT P t) fun q => Prod.rec (motive := fun _ => Bool) (fun n zs => fN (Nat.mul len n) fun k => grd (Nat.ble k 100000) (grd (not (Nat.beq k 0)) (fcBs n zs len ps K))) q
  | _ => false
def reserveX (K : BId → Hp → Bool) (nx : BId) (bl : T5 (Option Blk)) : Bool := BId.next (fun y => K nx ⟨y, bl⟩) nx
def reserveK (h : Hp) (K : BId → Hp → Bool) : Bool := Hp.rec (motive := fun _ => Bool) (reserveX K) h
theorem reserveK_inv {h : Hp} {K : BId → Hp → Bool} (e : reserveK h K = true) : ∃ y, y.val = h.nx.val + 1 ∧ K h.nx { h with nx := y } = true := by
  obtain ⟨nx, bl⟩ := h
  exact BId.next_eq _ _ (show BId.next (fun y => K nx ⟨y, bl⟩) nx = true from e)
def noneL0 {α : Type} (l : List α) : Bool := List.rec (motive := fun _ => Bool) true (fun _ _ _ => false) l
theorem noneL0_eq {α : Type} {l : List α} (h : noneL0 l = true) : l = [] := by cases l <;> first | rfl | cases h
def eqBlk (x y : Blk) : Bool := Blk.rec (motive := fun _ => Bool) (fun r cs => cellsK y fun r' cs' => grd (eqB1 r r') (eqVs cs cs'))
  (fun c es st => mapK y fun c' es' st' => grd (Nat.beq c c') (grd (noneL0 es) (grd (noneL0 es') (grd (noneL0 st) (noneL0 st'))))) (fun _ _ _ _ => false) (fun _ _ => false) x
theorem eqBlk_eq {x y : Blk} (h : eqBlk x y = true) : x = y := by
  cases x with
  | cells r cs =>
    obtain ⟨r', cs', rfl, h2⟩ := cellsK_inv (show cellsK y _ = true from h)
    obtain ⟨h3, h4⟩ := grd_inv h2
    rw [eqB1_eq h3, eqVs_eq h4]
  | map c es st =>
    obtain ⟨c', es', st', rfl, h1⟩ := mapK_inv (show mapK y _ = true from h)
    obtain ⟨h2, h3⟩ := grd_inv h1
    obtain ⟨h4, h5⟩ := grd_inv h3
    obtain ⟨h6, h7⟩ := grd_inv h5
    obtain ⟨h8, h9⟩ := grd_inv h7
    rw [Nat.eq_of_beq_eq_true h2, noneL0_eq h4, noneL0_eq h6, noneL0_eq h8, noneL0_eq h9]
  | iter => cases h
  | siter => cases h
def stored (nt : Nat) (dst : Option Tmp) (tm : Tm) (v : V) : Bool := Option.rec (motive := fun _ => Bool) true (fun d => grd (Nat.blt d nt) (T3.get d tm fun o => optK o (eqV v))) dst
theorem stored_inv {nt : Nat} {dst : Option Tmp} {tm : Tm} {v : V} (h : stored nt dst tm v = true) : ∀ d, dst = some d → d < nt ∧ T3.at tm d = some v := by
  intro d hd
  subst hd
  obtain ⟨h1, h2⟩ := grd_inv (show grd (Nat.blt d nt) _ = true from h)
  rw [T3.get_eq] at h2
  obtain ⟨u, hu, h3⟩ := optK_inv h2
  exact ⟨Nat.of_blt h1, by rw [hu, eqV_eq h3]⟩

section
variable (P : Program) (cf : CallF) (nt : Nat) (ops : Array Oper)
/-- one that makes a value, guarded perhaps -/
def evalP (it : It) (tm : Tm) (ds : List Dfr) (h : Hp) (f : V → Bool) : Bool := Option.rec (motive := fun _ => Bool) (operK cf it.o.op P tm ds h fun v _ _ => f v) (guardK ops.toList tm (operK cf it.o.op P tm ds h fun v _ _ => f v) (f nilT)) it.o.guard
def openA (it : It) (tm : Tm) (h : Hp) (K : FS → Tm → Hp → Bool) : Bool := fcells P it.o.op tm fun x q => reserveK h fun r h => putK nt it.o.dst tm (mkV q r) fun tm => K ⟨it.i, it.o, r, none, x⟩ tm h
def openS (it : It) (t : TypeId) (p x : Operand) (tm : Tm) (h : Hp) (K : FS → Tm → Hp → Bool) : Bool := ev p tm fun pv => onPtr pv fun b _ => ev x tm fun xv => getK h b fun old => storeK P t h pv xv fun h1 => getK h1 b fun new => setB h b none fun h2 => putK nt it.o.dst tm nilT fun tm => K ⟨it.i, it.o, b, some old, new⟩ tm h2
def openF (it : It) (tm : Tm) (h : Hp) (K : FS → Tm → Hp → Bool) : Bool := match it.o.op with
  | .store t p x => openS P nt it t p x tm h K
  | _ => openA P nt it tm h K
def openOne (it : It) (fl : List FS) (tm : Tm) (ds : List Dfr) (h : Hp) (K : List FS → Tm → Hp → Bool) : Bool := alt (pureOp P it.o.op) (evalP P cf ops it tm ds h fun v => putK nt it.o.dst tm v fun tm => K fl tm h) (openF P nt it tm h fun f tm h => K (f :: fl) tm h)
def openL (l : List It) : List FS → Tm → List Dfr → Hp → (List FS → Tm → Hp → Bool) → Bool := List.rec (motive := fun _ => List FS → Tm → List Dfr → Hp → (List FS → Tm → Hp → Bool) → Bool) (fun fl tm _ h K => K fl tm h)
  (fun it _ ih fl tm ds h K => openOne P cf nt ops it fl tm ds h fun fl tm h => ih fl tm ds h K) l
def memF (i : Nat) (fl : List FS) : Bool := List.rec (motive := fun _ => Bool) false (fun f _ ih => or (Nat.beq f.i i) ih) fl
def chkL (l : List It) (fl : List FS) (tm : Tm) (ds : List Dfr) (h : Hp) : Bool := List.rec (motive := fun _ => Bool) true
  (fun it _ ih => grd (alt (pureOp P it.o.op) (evalP P cf ops it tm ds h fun v => stored nt it.o.dst tm v) (memF it.i fl)) ih) l
def chkA (f : FS) (tm : Tm) : Bool := fcells P f.o.op tm fun x q => grd (eqBlk x f.new) (stored nt f.o.dst tm (mkV q f.b))
def chkS (f : FS) (t : TypeId) (p x : Operand) (old : Blk) (tm : Tm) (h : Hp) : Bool := ev p tm fun pv => onPtr pv fun b _ => grd (eqId b f.b) (ev x tm fun xv => setB h b (some old) fun h1 => storeK P t h1 pv xv fun h2 => getK h2 b fun new => grd (eqBlk new f.new) (stored nt f.o.dst tm nilT))
def chkO (f : FS) (old : Blk) (tm : Tm) (h : Hp) : Bool := match f.o.op with
  | .store t p x => chkS P nt f t p x old tm h
  | _ => false
def chkF (f : FS) (tm : Tm) (h : Hp) : Bool := Option.rec (motive := fun _ => Bool) (Option.rec (motive := fun _ => Bool) (chkA P nt f tm) (fun old => chkO P nt f old tm h) f.old) (fun _ => false) f.o.guard
def chkFs (fl : List FS) (tm : Tm) (h : Hp) : Bool := List.rec (motive := fun _ => Bool) true (fun f _ ih => grd (chkF P nt f tm h) ih) fl
def closeL (fl : List FS) : Hp → (Hp → Bool) → Bool := List.rec (motive := fun _ => Hp → (Hp → Bool) → Bool) (fun h K => K h) (fun f _ ih h K => setB h f.b (some f.new) fun h => ih h K) fl
def closeW (bf : Nat) (fl : List FS) : Hp → (List FS → Hp → Bool) → Bool := List.rec (motive := fun _ => Hp → (List FS → Hp → Bool) → Bool) (fun h K => K [] h)
  (fun f _ ih h K => alt (tz bf f.i) (ih h fun fl h => K (f :: fl) h) (setB h f.b (some f.new) fun h => ih h K)) fl
def runW (W : It) (tm : Tm) (ds : List Dfr) (h : Hp) (K : Kr) : Bool := Option.rec (motive := fun _ => Bool) (operK cf W.o.op P tm ds h fun v ds h => putK nt W.o.dst tm v fun tm => K tm ds h)
  (guardK ops.toList tm (operK cf W.o.op P tm ds h fun v ds h => putK nt W.o.dst tm v fun tm => K tm ds h) (putK nt W.o.dst tm nilT fun tm => K tm ds h)) W.o.guard
def freshOf (its : List It) (fm rm prm : Nat) : List It := its.filter fun it => and (nonch P fm it) (and (avail rm it) (not (avail prm it)))
def fresh0 (its : List It) (fm rm : Nat) : List It := its.filter fun it => and (nonch P fm it) (avail rm it)
def chkOf (its : List It) (fm rm dnb : Nat) : List It := its.filter fun it => and (nonch P fm it) (and (avail rm it) (tz dnb it.i))
def phaseK (its : List It) (fm rm dnb : Nat) (fresh : List It) (fl : List FS) (tm : Tm) (ds : List Dfr) (h : Hp) (tail : List FS → Tm → Hp → Bool) : Bool :=
  openL P cf nt ops fresh fl tm ds h fun fl tm h => grd (chkL P cf nt ops (chkOf P its fm rm dnb) fl tm ds h) (grd (chkFs P nt fl tm h) (tail fl tm h))
abbrev DrT := Nat → List It → List FS → Tm → List Dfr → Hp → Kr → Bool
def drawT (its : List It) (fm : Nat) (rest : List It) : DrT := List.rec (motive := fun _ => DrT)
  (fun dnb fresh fl tm ds h K => phaseK P cf nt ops its fm 0 dnb fresh fl tm ds h fun fl tm h => closeL fl h fun h => K tm ds h)
  (fun W r ih dnb fresh fl tm ds h K => phaseK P cf nt ops its fm (maskOf (W :: r)) dnb fresh fl tm ds h fun fl tm h => closeW W.bf fl h fun fl h => runW P cf nt ops W tm ds h fun tm ds h => ih (Nat.lor dnb W.bf) (freshOf P its fm (maskOf r) (maskOf (W :: r))) fl tm ds h K) rest
/-- the rest of a phase -/
def tailP (its : List It) (fm : Nat) (rest : List It) (dnb : Nat) (fl : List FS) (tm : Tm) (ds : List Dfr) (h : Hp) (K : Kr) : Bool := match rest with
  | [] => closeL fl h fun h => K tm ds h
  | W :: r => closeW W.bf fl h fun fl h => runW P cf nt ops W tm ds h fun tm ds h => drawT P cf nt ops its fm r (Nat.lor dnb W.bf) (freshOf P its fm (maskOf r) (maskOf (W :: r))) fl tm ds h K
theorem drawT_eq (its : List It) (fm : Nat) (rest : List It) (dnb : Nat) (fresh : List It) (fl : List FS) (tm : Tm) (ds : List Dfr) (h : Hp) (K : Kr) :
    drawT P cf nt ops its fm rest dnb fresh fl tm ds h K = phaseK P cf nt ops its fm (maskOf rest) dnb fresh fl tm ds h fun fl tm h => tailP P cf nt ops its fm rest dnb fl tm ds h K := by
  cases rest <;> rfl
def drawK : OpsM := fun tm ds h K => grd (statOk P ops) (drawT P cf nt ops (itemsOf ops) (fmOf P ops) (chainOf P ops) 0 (fresh0 P (itemsOf ops) (fmOf P ops) (maskOf (chainOf P ops))) [] tm ds h K)
end
end
end Go.Ev
namespace Go.Ev
noncomputable section

theorem storeK_inv {P : Program} {t : TypeId} {h : Hp} {p x : V} {K : Hp → Bool} (e : storeK P t h p x K = true) : ∃ b off cs cs2, p = .ptr b off ∧ h.at b = some (.cells false cs) ∧ K (h.set b (some (.cells false cs2))) = true := by
  obtain ⟨b, off, rfl, h1⟩ := onPtr_inv e
  obtain ⟨n, hn, h2⟩ := optK_inv h1
  obtain ⟨ro, cs, hb, h3⟩ := onCells_inv h2
  obtain ⟨hro, h4⟩ := grd_inv h3
  have hro : ro = false := by cases ro <;> first | rfl | cases hro
  subst hro
  obtain ⟨hnt, h5⟩ := aggOr_inv h4
  rcases h5 with ⟨l, rfl, h6⟩ | ⟨_, hone, h6⟩
  · obtain ⟨h7, h8⟩ := grd_inv (lnK_inv h6)
    obtain ⟨h9, h10⟩ := putsK_inv h8
    exact ⟨b, off, cs, _, rfl, hb, setB_inv h10⟩
  · obtain ⟨h7, h8⟩ := grd_inv h6
    obtain ⟨h9, h10⟩ := setK_inv h8
    exact ⟨b, off, cs, _, rfl, hb, setB_inv h10⟩
theorem storeK_full {P : Program} {G : Fr} {m : M} {h : Hp} {w : World} (r : HRel G m h w) {p x : V} {p' x' : Value} (rp : VRel m p p') (rx : VRel m x x') {t : TypeId} {K : Hp → Bool}
    (e : storeK P t h p x K = true) : ∃ b off cs2 w', p = .ptr b off ∧ (Instr.storeAt t p' x').run P w = .ok () w' ∧ HRel G m (h.set b (some (.cells false cs2))) w' ∧ K (h.set b (some (.cells false cs2))) = true := by
  obtain ⟨b, off, rfl, h1⟩ := onPtr_inv e
  obtain ⟨n, hn, h2⟩ := optK_inv h1
  obtain ⟨ro, cs, hb, h3⟩ := onCells_inv h2
  obtain ⟨hro, h4⟩ := grd_inv h3
  have hro : ro = false := by cases ro <;> first | rfl | cases hro
  subst hro
  obtain ⟨hnt, h5⟩ := aggOr_inv h4
  have hflat := rx.flat hnt
  have hcs := rx.cells
  cases rp with
  | ptr _ _ a ra =>
    rcases h5 with ⟨l, rfl, h6⟩ | ⟨_, hone, h6⟩
    · obtain ⟨h7, h8⟩ := grd_inv (lnK_inv h6)
      have h7 : 0 + l.length = n := Nat.eq_of_beq_eq_true h7
      obtain ⟨h9, h10⟩ := putsK_inv h8
      obtain ⟨w', hr, hrel⟩ := r.puts P hb ra hcs hflat h9
      have hsz : x'.cells.size = n := by
        have := hcs.length
        have e : (cellsV (.agg l)).length = l.length := rfl
        rw [← Array.length_toList]; omega
      exact ⟨b, off, _, w', rfl, by simp [Instr.storeAt, Instr.sureAddr, storeVar, szT_run hn, hsz, hr], hrel, setB_inv h10⟩
    · obtain ⟨h7, h8⟩ := grd_inv h6
      have h7 : n = 1 := Nat.eq_of_beq_eq_true h7
      subst h7
      obtain ⟨h9, h10⟩ := setK_inv h8
      rw [hone] at hcs
      obtain ⟨w', hr, hrel⟩ := r.puts P hb ra hcs hflat (by simp; omega)
      have hsz : x'.cells.size = 1 := by
        have := hcs.length
        rw [← Array.length_toList]; simpa using this.symm
      rw [set_eq_puts x cs off h9] at h10
      exact ⟨b, off, _, w', rfl, by simp [Instr.storeAt, Instr.sureAddr, storeVar, szT_run hn, hsz, hr], hrel, setB_inv h10⟩

-- a new block's cells, told by the operands alone
def mkVal (q : Mk) (B : Nat) : Value := match q with
  | .ptr => .pointer (some ⟨B, 0, none⟩)
  | .sl n => .slice (some ⟨B, 0, none⟩) n n
  | .mp => .map (some B)
theorem mkV_rel {m : M} {b : BId} {B sz : Nat} (h : m b = .live B 0 sz) (q : Mk) : VRel m (mkV q b) (mkVal q B) := by
  have hp : PRel m b 0 ⟨B, 0, none⟩ := by unfold PRel; rw [h]
  cases q with
  | ptr => exact .ptr _ _ _ hp
  | sl n => exact .sl _ _ _ _ _ _ hp (Nat.le_refl _) rfl
  | mp => exact .mp _ _ (by unfold MRel; rw [h])
theorem fcells_run {P : Program} {m : M} {nt : Nat} {tm : Tm} {a : Act} (hg : GRel m) (ht : TRel m nt tm a) {o : Oper} {K : Blk → Mk → Bool} (e : fcells P o.op tm K = true) :
    ∃ x q sz ob, K x q = true ∧ (∀ m', Le m m' → BRel m' 0 sz x ob) ∧ ∀ w, (execOp a.eval o).run P w = .ok (.value (mkVal q w.heap.size)) (w.alloc ob) := by
  have cel : ∀ {cs : List V} {cs' : List Value} (t : TypeId), LRel m cs cs' → Flat cs' → ∀ m', Le m m' → BRel m' 0 cs'.length (.cells false cs) (.cells cs'.toArray t) := fun t rc fc m' hle => ⟨_, t, (0, 0), rfl, by simp, fun _ i hi => by simp, CsRel.of (rc.mono hle) fc⟩
  obtain ⟨dst, op, ty, pos, after, guard⟩ := o
  cases op <;> first | (cases e; done) | skip
  case alloc t =>
    obtain ⟨z, hz, h1⟩ := optK_inv (show optK (zeroT P t) _ = true from e)
    obtain ⟨z', hr, hrun⟩ := zeroT_run hz
    obtain ⟨hn, h2⟩ := cellsC_inv h1
    exact ⟨_, .ptr, _, .cells z'.cells.toList.toArray t, h2, cel t (hr m).cells ((hr m).flat hn), fun w => by simp [execOp, Instr.alloc, hrun, newVar, newRow, mkVal]⟩
  case box t x =>
    obtain ⟨v, rv, h1⟩ := ev_inv hg ht (show ev x tm _ = true from e)
    obtain ⟨hn, h2⟩ := cellsC_inv h1
    exact ⟨_, .ptr, _, .cells (a.eval x).cells.toList.toArray t, h2, cel t rv.cells (rv.flat hn), fun w => by simp [execOp, Instr.box, newVar, newRow, mkVal]⟩
  case makeMap t r =>
    cases r with
    | some x => cases e
    | none => exact ⟨_, .mp, 0, .map #[] 0, e, fun m' _ => ⟨#[], rfl, .nil, rfl⟩, fun w => by simp [execOp, Instr.makeMap, mkVal]⟩
  case buildSlice t len ps =>
    obtain ⟨vs, rvs, h1⟩ := partsV_inv hg ht (show partsV ps.toList tm _ = true from e)
    obtain ⟨⟨n, zs⟩, hq, h2⟩ := optK_inv h1
    obtain ⟨el, i, z, hu, hi, hz, hzs, his, hby, hrel⟩ := rowT_eq hq
    have h2 : fN (Nat.mul len n) (fun k => grd (Nat.ble k 100000) (grd (not (Nat.beq k 0)) (fcBs n zs len vs K))) = true := h2
    rw [fN_eq] at h2
    obtain ⟨h3, h4⟩ := grd_inv h2
    obtain ⟨h5, h6⟩ := grd_inv h4
    have h3 : len * n ≤ 100000 := Nat.le_of_ble_eq_true h3
    have h5 : ¬ len * n = 0 := fun e0 => by
      have : Nat.mul len n = 0 := e0
      rw [this] at h5; cases h5
    obtain ⟨rz, fz⟩ := hrel m
    have big : ¬ len * i.size > 2 ^ 24 := by rw [his]; omega
    have h7 := replK_inv (show replK zs len _ = true from h6)
    have hmade : (madeCells z.cells (len * n)).toList = (List.replicate len z.cells.toList).flatten := by rw [← hzs]; exact madeCells_eq _ _
    have rp : PsRel m vs (ps.map fun (i, x) => (i, a.eval x)).toList := by simpa using rvs
    obtain ⟨cs, cs', hfi, rc, fc, hlen, h8⟩ := fillK_inv rp (rz.replicate len) (fz.replicate len) h7
    refine ⟨_, .sl len, _, .cells cs'.toArray el, h8, cel el rc fc, fun w => ?_⟩
    have hrun := run_buildSlice (P := P) w t el len (ps.map fun (i, x) => (i, a.eval x)) cs'.toArray i z hu hi hz big (by rw [his]; exact h5) (by
      have e1 : (Array.range (len * i.size)).map (z.cells[· % z.cells.size]!) = (List.replicate len z.cells.toList).flatten.toArray := by
        apply Array.toList_inj.1
        have e2 : ((List.replicate len z.cells.toList).flatten.toArray).toList = (List.replicate len z.cells.toList).flatten := rfl
        rw [e2, ← hmade, his]
        rfl
      have e3 : (fun j => some (j * i.size, i.size)) = arrPlace n := by funext j; rw [his]; rfl
      rw [e1, e3]
      exact hfi)
    exact run_v hrun

theorem ev_ex {x : Operand} {tm : Tm} {f : V → Bool} (hx : ev x tm f = true) : ∃ v, f v = true := by
  cases x with
  | tmp t =>
    obtain ⟨_, h1⟩ := grd_inv (show grd (Nat.blt t 256) (T3.get t tm (optVK f)) = true from hx)
    rw [T3.get_eq] at h1
    obtain ⟨v, _, h2⟩ := optK_inv h1
    exact ⟨v, h2⟩
  | const c => obtain ⟨v, _, h2⟩ := optK_inv (show optK (cvt c) f = true from hx); exact ⟨v, h2⟩
  | global gl => obtain ⟨_, h2⟩ := grd_inv (show grd (Nat.blt gl 64) (f (.ptr (BId.of gl) 0)) = true from hx); exact ⟨_, h2⟩
  | func fn => exact ⟨_, hx⟩
theorem partsV_ex {tm : Tm} : ∀ {l : List (Nat × Operand)} {f : List (Nat × V) → Bool}, partsV l tm f = true → ∃ v, f v = true
  | [], f, hx => ⟨[], hx⟩
  | (i, x) :: l, f, hx => by
    obtain ⟨v, h1⟩ := ev_ex (show ev x tm (fun v => partsV l tm fun vs => f ((i, v) :: vs)) = true from hx)
    obtain ⟨vs, h2⟩ := partsV_ex h1
    exact ⟨_, h2⟩
theorem fillK_ex {pl : Nat → Option (Nat × Nat)} : ∀ {l : List (Nat × V)} {zs : List V} {f : List V → Bool}, fillK pl l zs f = true → ∃ cs, f cs = true
  | [], zs, f, hx => ⟨zs, hx⟩
  | (i, x) :: l, zs, f, hx => by
    obtain ⟨⟨off, size⟩, _, h1⟩ := optK_inv (show optK (pl i) _ = true from hx)
    obtain ⟨_, h2⟩ := cellsC_inv (show cellsC x _ = true from h1)
    obtain ⟨_, h4⟩ := grd_inv (lnK_inv h2)
    obtain ⟨_, h6⟩ := putsK_inv h4
    exact fillK_ex h6
theorem fcells_ex {P : Program} {op : Op} {tm : Tm} {K : Blk → Mk → Bool} (e : fcells P op tm K = true) : ∃ x q, K x q = true := by
  cases op <;> first | (cases e; done) | skip
  case alloc t =>
    obtain ⟨z, hz, h1⟩ := optK_inv (show optK (zeroT P t) _ = true from e)
    obtain ⟨hn, h2⟩ := cellsC_inv h1
    exact ⟨_, _, h2⟩
  case box t x =>
    obtain ⟨v, h1⟩ := ev_ex (show ev x tm _ = true from e)
    obtain ⟨hn, h2⟩ := cellsC_inv h1
    exact ⟨_, _, h2⟩
  case makeMap t r =>
    cases r with
    | some x => cases e
    | none => exact ⟨_, _, e⟩
  case buildSlice t len ps =>
    obtain ⟨vs, h1⟩ := partsV_ex (show partsV ps.toList tm _ = true from e)
    obtain ⟨⟨n, zs⟩, hq, h2⟩ := optK_inv h1
    have h2 : fN (Nat.mul len n) (fun k => grd (Nat.ble k 100000) (grd (not (Nat.beq k 0)) (fcBs n zs len vs K))) = true := h2
    rw [fN_eq] at h2
    obtain ⟨_, h4⟩ := grd_inv h2
    obtain ⟨_, h6⟩ := grd_inv h4
    obtain ⟨cs, h8⟩ := fillK_ex (replK_inv (show replK zs len _ = true from h6))
    exact ⟨_, _, h8⟩

-- what stands aside
def PendB (m : M) (g : Nat → Option Obj) (G : Fr) (b : BId) : Option Blk → Prop
  | none => m b = .un
  | some x => ∃ B base sz o, m b = .live B base sz ∧ g B = some o ∧ G.gh B = none ∧ BRel m base sz x o
structure Pend (m : M) (g : Nat → Option Obj) (G : Fr) (h h0 : Hp) (on : Bool) (f : FS) : Prop where
  out : h.at f.b = none
  lt : f.b.val < h.nx.val
  old : h0.nx.val ≤ f.b.val ∨ h0.at f.b ≠ none
  blk : PendB m g G f.b (if on then some f.new else f.old)
section
variable {m m' : M} {g : Nat → Option Obj} {G : Fr} {h h' h0 : Hp} {on : Bool} {f : FS}
theorem PendB.ext {b : BId} {x : Option Blk} (p : PendB m g G b x) (hb : m' b = m b) (hle : Le m m') : PendB m' g G b x := by
  cases x with
  | none => exact hb.trans p
  | some x => obtain ⟨B, base, sz, o, h1, h2, h3, h4⟩ := p; exact ⟨B, base, sz, o, hb.trans h1, h2, h3, h4.mono hle⟩
theorem PendB.gset {b : BId} {x : Option Blk} (p : PendB m g G b x) {B : Nat} {y : Option Obj} (hB : ∀ base sz, m b ≠ .live B base sz) : PendB m (gset g B y) G b x := by
  cases x with
  | none => exact p
  | some x =>
    obtain ⟨B', base, sz, o, h1, h2, h3, h4⟩ := p
    have hne : B' ≠ B := fun e => by subst e; exact hB _ _ h1
    exact ⟨B', base, sz, o, h1, by rw [gset_ne _ _ hne]; exact h2, h3, h4⟩
theorem PendB.gnew {b : BId} {x : Option Blk} (p : PendB m g G b x) {B : Nat} {y : Option Obj} (hB : g B = none) : PendB m (Ev.gset g B y) G b x := by
  cases x with
  | none => exact p
  | some x =>
    obtain ⟨B', base, sz, o, h1, h2, h3, h4⟩ := p
    have hne : B' ≠ B := fun e => by subst e; rw [hB] at h2; cases h2
    exact ⟨B', base, sz, o, h1, by rw [gset_ne _ _ hne]; exact h2, h3, h4⟩
theorem Pend.ext (p : Pend m g G h h0 on f) (x : Ext m h m' h') : Pend m' g G h' h0 on f := by
  obtain ⟨h1, h2⟩ := x.keep _ p.lt p.out
  exact ⟨h1, Nat.lt_of_lt_of_le p.lt x.nx, p.old, p.blk.ext h2 x.le⟩
theorem Pend.gnew (p : Pend m g G h h0 on f) {B : Nat} {y : Option Obj} (hB : g B = none) : Pend m (gset g B y) G h h0 on f := ⟨p.out, p.lt, p.old, p.blk.gnew hB⟩
theorem Pend.gset (p : Pend m g G h h0 on f) {B : Nat} {y : Option Obj} (hB : ∀ base sz, m f.b ≠ .live B base sz) : Pend m (Ev.gset g B y) G h h0 on f := ⟨p.out, p.lt, p.old, p.blk.gset hB⟩
theorem Pend.set (p : Pend m g G h h0 on f) {b : BId} {x : Option Blk} (hb : f.b ≠ b) : Pend m g G (h.set b x) h0 on f := ⟨by rw [Hp.at_set_ne _ _ hb]; exact p.out, p.lt, p.old, p.blk⟩
end

/-- what holds while a region is gone through, its order drawn -/
structure PInv (P : Program) (nt : Nat) (ops : Array Oper) (its : List It) (fm : Nat) (G : Fr) (m0 : M) (h0 : Hp) (rm : Nat) (rest : List It) (dnb : Nat) (fl : List FS) (tm : Tm) (ds : List Dfr) (h : Hp) (listed : Array Bool) (a : Act) (w : World) (m : M) (g : Nat → Option Obj) : Prop where
  ext : Ext m0 h0 m h
  hr : HRel (G.over g) m h w
  gr : GRel m
  dr : DRel m ds a.defers
  gg : ∀ B o, g B = some o → G.gh B = none
  sz : a.tmps.size = nt
  le : nt ≤ 256
  tmp : ∀ x v, x < 256 → T3.at tm x = some v → (∃ (j : Nat) (o : Oper), ops[j]? = some o ∧ listed.getD j false = false ∧ o.dst = some x) ∨ ∃ v', a.tmps[x]? = some v' ∧ VRel m v v'
  cl : Closed ops listed
  lsz : listed.size = ops.size
  restU : ∀ it ∈ rest, it ∈ its ∧ nonch P fm it = false ∧ listed.getD it.i false = false
  restL : ∀ it ∈ its, nonch P fm it = false → it ∈ rest ∨ listed.getD it.i false = true
  dn : ∀ j, dnb.testBit j = true → listed.getD j false = true
  flo : ∀ f ∈ fl, ops[f.i]? = some f.o ∧ Pend m g G h h0 (listed.getD f.i false) f ∧ ∃ it ∈ its, it.i = f.i ∧ nonch P fm it = true ∧ pureOp P it.o.op = false ∧ avail rm it = true
  fld : fl.Pairwise (fun f f' => f.b ≠ f'.b ∧ f.i ≠ f'.i)
  lav : ∀ it ∈ its, nonch P fm it = true → listed.getD it.i false = true → avail rm it = true
section
variable {P : Program} {cf : CallF} {nt : Nat} {ops : Array Oper} {its : List It} {fm : Nat} {G : Fr} {m0 : M} {h0 : Hp} {rm : Nat} {rest : List It} {dnb : Nat} {fl : List FS} {tm : Tm} {ds : List Dfr} {h : Hp} {listed : Array Bool} {a : Act} {w : World} {m : M} {g : Nat → Option Obj}
/-- a value laid down for one that is still to be done -/
theorem PInv.lay (v : PInv P nt ops its fm G m0 h0 rm rest dnb fl tm ds h listed a w m g) {i : Nat} {o : Oper} (ho : ops[i]? = some o) (hi : listed.getD i false = false) {u : V} {K : Tm → Bool} (e : putK nt o.dst tm u K = true) :
    ∃ tm', PInv P nt ops its fm G m0 h0 rm rest dnb fl tm' ds h listed a w m g ∧ K tm' = true := by
  cases hd : o.dst with
  | none => rw [hd] at e; exact ⟨tm, v, e⟩
  | some d =>
    rw [hd] at e
    obtain ⟨h1, h2⟩ := grd_inv (show grd (Nat.blt d nt) (T3.put d (some u) tm K) = true from e)
    rw [T3.put_eq] at h2
    have h1 := Nat.of_blt h1
    have hle := v.le
    refine ⟨_, { v with tmp := fun x u' hx hu => ?_ }, h2⟩
    by_cases hdx : d = x
    · subst hdx; exact .inl ⟨i, o, ho, hi, hd⟩
    · rw [T3.at_set_ne _ _ _ _ (by omega) hx hdx] at hu
      exact v.tmp x u' hx hu
theorem PInv.opened (hits : ∀ it ∈ its, ops[it.i]? = some it.o) (v : PInv P nt ops its fm G m0 h0 rm rest dnb fl tm ds h listed a w m g) {it : It} (hit : it ∈ its) (hnc : nonch P fm it = true) (hnp : pureOp P it.o.op = false) (hav : avail rm it = true) (hu : listed.getD it.i false = false) (hfi : ∀ f ∈ fl, f.i ≠ it.i)
    {K : FS → Tm → Hp → Bool} (e : openF P nt it tm h K = true) : ∃ f tm' h' g', f.i = it.i ∧ PInv P nt ops its fm G m0 h0 rm rest dnb (f :: fl) tm' ds h' listed a w m g' ∧ K f tm' h' = true := by
  have ho := hits it hit
  have hA : openA P nt it tm h K = true → ∃ f tm' h' g', f.i = it.i ∧ PInv P nt ops its fm G m0 h0 rm rest dnb (f :: fl) tm' ds h' listed a w m g' ∧ K f tm' h' = true := by
    intro e
    obtain ⟨xb, q, h1⟩ := fcells_ex (show fcells P it.o.op tm _ = true from e)
    obtain ⟨y, hy, h2⟩ := reserveK_inv h1
    have hun : m h.nx = .un := v.hr.nx _ (Nat.le_refl _)
    have v1 : PInv P nt ops its fm G m0 h0 rm rest dnb (⟨it.i, it.o, h.nx, none, xb⟩ :: fl) tm ds { h with nx := y } listed a w m g := by
      have hk : Ext m h m { h with nx := y } := ⟨Le.refl m, by show h.nx.val ≤ y.val; omega, fun b hb hn => ⟨hn, rfl⟩⟩
      refine { v with ext := v.ext.trans hk, hr := v.hr.reserve hy, flo := fun f hf => ?_, fld := ?_ }
      · rcases List.mem_cons.1 hf with rfl | hf
        · refine ⟨ho, ⟨v.hr.at_un hun, ?_, .inl v.ext.nx, ?_⟩, it, hit, rfl, hnc, hnp, hav⟩
          · show h.nx.val < y.val; omega
          · rw [hu]; exact hun
        · obtain ⟨q1, q2, q3⟩ := v.flo f hf
          exact ⟨q1, q2.ext hk, q3⟩
      · refine List.pairwise_cons.2 ⟨fun f hf => ⟨fun e => ?_, fun e => hfi f hf e.symm⟩, v.fld⟩
        have := (v.flo f hf).2.1.lt
        have e : h.nx = f.b := e
        rw [← e] at this
        omega
    obtain ⟨tm', v2, hK⟩ := v1.lay ho hu h2
    exact ⟨_, tm', _, g, rfl, v2, hK⟩
  unfold openF at e
  split at e
  · rename_i t p x hop
    obtain ⟨pv, h1⟩ := ev_ex (show ev p tm _ = true from e)
    obtain ⟨b, off, rfl, h2⟩ := onPtr_inv h1
    obtain ⟨xv, h3⟩ := ev_ex h2
    obtain ⟨old, hold, h4⟩ := getK_inv h3
    obtain ⟨b', off', cs, cs2, hpe, hbc, h5⟩ := storeK_inv h4
    cases hpe
    rw [hbc] at hold
    cases hold
    obtain ⟨new, hnew, h6⟩ := getK_inv h5
    rw [Hp.at_set_same] at hnew
    cases hnew
    have h7 := setB_inv h6
    obtain ⟨B, base, sz, o, hm, hbr, hw, hgB, hGB, hr'⟩ := v.hr.takeOut hbc rfl
    have hk : Ext m h m (h.set b none) := Ext.upd _ hbc
    have v1 : PInv P nt ops its fm G m0 h0 rm rest dnb (⟨it.i, it.o, b, some (.cells false cs), .cells false cs2⟩ :: fl) tm ds (h.set b none) listed a w m (gset g B (some o)) := by
      refine { v with ext := v.ext.trans hk, hr := hr', gg := fun C u hC => ?_, flo := fun f hf => ?_, fld := ?_ }
      · by_cases hCB : C = B
        · rw [hCB]; exact hGB
        · rw [gset_ne _ _ hCB] at hC; exact v.gg C u hC
      · rcases List.mem_cons.1 hf with rfl | hf
        · refine ⟨ho, ⟨by simp, ?_, ?_, ?_⟩, it, hit, rfl, hnc, hnp, hav⟩
          · show b.val < h.nx.val
            rcases Nat.lt_or_ge b.val h.nx.val with hlt | hge
            · exact hlt
            · have := v.hr.nx b hge; rw [hm] at this; cases this
          · show h0.nx.val ≤ b.val ∨ h0.at b ≠ none
            rcases Nat.lt_or_ge b.val h0.nx.val with hlt | hge
            · refine .inr fun hn => ?_
              have := (v.ext.keep b hlt hn).1
              rw [hbc] at this; cases this
            · exact .inl hge
          · rw [hu]; exact ⟨B, base, sz, o, hm, by simp, hGB, hbr⟩
        · obtain ⟨q1, q2, q3⟩ := v.flo f hf
          have hne : f.b ≠ b := fun e => by
            have := q2.out
            rw [e, hbc] at this; cases this
          exact ⟨q1, (q2.gnew hgB).set hne, q3⟩
      · refine List.pairwise_cons.2 ⟨fun f hf => ⟨fun e => ?_, fun e => hfi f hf e.symm⟩, v.fld⟩
        have := (v.flo f hf).2.1.out
        have e : b = f.b := e
        rw [← e, hbc] at this; cases this
    obtain ⟨tm', v2, hK⟩ := v1.lay ho hu h7
    exact ⟨_, tm', _, _, rfl, v2, hK⟩
  · exact hA e
end
end
end Go.Ev
namespace Go.Ev
noncomputable section

variable {P : Program} {K : V → Bool}
theorem evs_ex {tm : Tm} : ∀ {l : List Operand} {f : List V → Bool}, evs l tm f = true → ∃ v, f v = true
  | [], f, hx => ⟨[], hx⟩
  | x :: l, f, hx => by
    obtain ⟨v, h1⟩ := ev_ex (show ev x tm (fun v => evs l tm fun vs => f (v :: vs)) = true from hx)
    obtain ⟨vs, h2⟩ := evs_ex h1
    exact ⟨_, h2⟩
theorem optV_ex {tm : Tm} {x : Option Operand} {f : Option V → Bool} (h : optV x tm f = true) : ∃ v, f v = true := by
  cases x with
  | none => exact ⟨none, h⟩
  | some y => obtain ⟨v, h1⟩ := ev_ex (show ev y tm (fun v => f (some v)) = true from h); exact ⟨_, h1⟩
theorem intOp_ex {op : BinOp} {k : IntKind} {a b : Int} (h : intOp op k a b K = true) : ∃ v, K v = true := by
  cases op
  case add => exact ⟨_, addI_inv h⟩
  case sub => exact ⟨_, subI_inv h⟩
  case mul => exact ⟨_, mulI_inv h⟩
  case quo => exact ⟨_, (quoI_inv h).2⟩
  case rem => exact ⟨_, (remI_inv h).2⟩
  case shl => exact ⟨_, (shlI_inv h).2⟩
  case shr => exact ⟨_, (shrI_inv h).2⟩
  case and => obtain ⟨n, _, h1⟩ := fastB_inv (and_fast k) h; exact ⟨_, h1⟩
  case or => obtain ⟨n, _, h1⟩ := fastB_inv (or_fast k) h; exact ⟨_, h1⟩
  case xor => obtain ⟨n, _, h1⟩ := fastB_inv (xor_fast k) h; exact ⟨_, h1⟩
  case andNot => obtain ⟨n, _, h1⟩ := slowB_inv h; exact ⟨_, h1⟩
  all_goals exact ⟨_, outB_inv h⟩
theorem strOp_ex {op : BinOp} {x y : List Nat} (h : strOp op x y K = true) : ∃ v, K v = true := by
  cases op
  case add =>
    obtain ⟨_, h1⟩ := grd_inv (h : addS x y K = true)
    obtain ⟨_, h2⟩ := grd_inv h1
    exact ⟨_, catK_inv h2⟩
  all_goals first | exact ⟨_, outB_inv h⟩ | cases h
theorem eqBy_ex {f : V → Option Bool} {x y : V} {K : Bool → Bool} (h : eqBy f x y K = true) : ∃ b, K b = true := by
  obtain ⟨a, _, h1⟩ := optK_inv h
  obtain ⟨b, _, h2⟩ := optK_inv h1
  exact ⟨_, (nilEq_inv h2).2⟩
theorem sameInts_ex : ∀ {l k : List V} {K : Bool → Bool}, sameInts l k K = true → ∃ b, K b = true
  | [], [], K, h => ⟨true, h⟩
  | [], _ :: _, K, h => by cases h
  | _ :: _, [], K, h => by cases h
  | x :: l, y :: k, K, h => by
    obtain ⟨i, a, rfl, h1⟩ := onInt_inv (show onInt x (fun i a => onInt y fun j b => grd (decide (i = j)) (sameInts l k fun r => K (and (eqI a b) r))) = true from h)
    obtain ⟨j, b, rfl, h2⟩ := onInt_inv h1
    obtain ⟨_, h3⟩ := grd_inv h2
    obtain ⟨r, h4⟩ := sameInts_ex h3
    exact ⟨_, h4⟩
theorem eqF_ex {t : TypeId} {o1 o2 : Operand} {x y : V} {K : Bool → Bool} (h : eqF P t o1 o2 x y K = true) : ∃ b, K b = true := by
  unfold eqF at h
  split at h
  · exact eqBy_ex h
  · exact eqBy_ex h
  · exact eqBy_ex h
  · exact eqBy_ex h
  · obtain ⟨b, h1⟩ := eqBy_ex h
    exact ⟨_, (grd_inv h1).2⟩
  · obtain ⟨a, _, h1⟩ := onBool_inv (show onBool x _ = true from h)
    obtain ⟨b, _, h2⟩ := onBool_inv h1
    rcases alt_inv h2 with ⟨_, h3⟩ | ⟨_, h3⟩
    · exact ⟨b, by simpa using h3⟩
    · exact ⟨!b, by simpa using h3⟩
  · obtain ⟨_, h1⟩ := grd_inv h
    obtain ⟨l, _, h2⟩ := onAgg_inv h1
    obtain ⟨k, _, h3⟩ := onAgg_inv h2
    obtain ⟨_, h4⟩ := grd_inv h3
    exact sameInts_ex h4
  · cases h
theorem binK_ex {x y : V} {op : BinOp} {xt : TypeId} {ox oy : Operand} (h : binK x y op xt ox oy P K = true) : ∃ v, K v = true := by
  unfold binK at h
  split at h
  · obtain ⟨k', b, rfl, h1⟩ := onInt_inv (show onInt y _ = true from h)
    exact intOp_ex (grd_inv h1).2
  · obtain ⟨r, rfl, h1⟩ := onStr_inv (show onStr y _ = true from h)
    exact strOp_ex h1
  · unfold binEq at h
    split at h
    · obtain ⟨b, h1⟩ := eqF_ex (show eqF P xt ox oy _ y _ = true from h); exact ⟨_, h1⟩
    · obtain ⟨b, h1⟩ := eqF_ex (show eqF P xt ox oy _ y _ = true from h); exact ⟨_, by simpa using h1⟩
    · cases h
theorem unK_ex {op : UnOp} {x : V} (h : unK op x K = true) : ∃ v, K v = true := by
  unfold unK at h
  split at h
  · obtain ⟨k, n, rfl, h1⟩ := onInt_inv h; exact ⟨_, subI_inv h1⟩
  · obtain ⟨k, n, rfl, h1⟩ := onInt_inv h
    obtain ⟨r, hr, h2⟩ := fastB_inv (xor_fast k) h1
    exact ⟨_, h2⟩
  · obtain ⟨b, rfl, h1⟩ := onBool_inv h; exact ⟨_, by simpa using h1⟩
  · cases h
theorem partK_ex {cs : List V} {t : TypeId} {off : Nat} (h : partK P t cs off K = true) : ∃ v, K v = true := by
  obtain ⟨g, hg, h⟩ := optK_inv h
  rcases alt_inv h with ⟨rfl, h⟩ | ⟨rfl, h⟩
  · obtain ⟨n, hn, h⟩ := optK_inv h
    obtain ⟨h1, h⟩ := dropK_inv h
    obtain ⟨h2, h⟩ := takeK_inv h
    exact ⟨_, h⟩
  · obtain ⟨v, hv, h⟩ := nthK_inv h
    exact ⟨_, h⟩
theorem loadK_ex {t : TypeId} {h : Hp} {p : V} (e : loadK P t h p K = true) : ∃ v, K v = true := by
  obtain ⟨b, off, rfl, h1⟩ := onPtr_inv e
  obtain ⟨ro, cs, hb, h2⟩ := onCells_inv h1
  exact partK_ex (show partK P t cs off K = true from h2)
theorem bndK_ex {v : V} {y : Nat} {K : Nat → Bool} (h : bndK v y K = true) : ∃ n, K n = true := by
  obtain ⟨k, n, rfl, h1⟩ := onNatV_inv h
  exact ⟨n, (grd_inv h1).2⟩
theorem bndO_ex {v : Option V} {d y : Nat} {K : Nat → Bool} (h : bndO v d y K = true) : ∃ n, K n = true := by
  cases v with
  | none => exact ⟨d, h⟩
  | some v => exact bndK_ex h
theorem bndH_ex {mx v : Option V} {d y : Nat} {K : Nat → Bool} (h : bndH mx v d y K = true) : ∃ n, K n = true := by
  cases mx with
  | none => exact bndO_ex h
  | some m => cases v with
    | none => cases h
    | some v => exact bndK_ex h
theorem mkSl_ex {b : BId} {off es lo hi mm : Nat} (h : mkSl b off es lo hi mm K = true) : ∃ v, K v = true := by
  unfold mkSl at h
  simp only [fN_eq] at h
  rcases alt_inv h with ⟨e, h⟩ | ⟨e, h⟩
  · exact ⟨_, h⟩
  · exact ⟨_, h⟩
theorem slEx_ex {es : Nat} {b : BId} {off len c : Nat} {lo hi mx : Option V} (h : slEx es b off len lo hi mx K c = true) : ∃ v, K v = true := by
  obtain ⟨_, h1⟩ := bndO_ex h
  obtain ⟨_, h2⟩ := bndH_ex h1
  obtain ⟨_, h3⟩ := bndO_ex h2
  exact mkSl_ex h3
theorem slNo_ex {lo hi mx : Option V} {x : Bool} (h : slNo lo hi mx x = true) : x = true := by
  obtain ⟨_, h1⟩ := bndO_ex h
  obtain ⟨_, h2⟩ := bndH_ex h1
  obtain ⟨_, h3⟩ := bndO_ex h2
  exact h3
theorem sliceK_ex {t : TypeId} {x : V} {lo hi mx : Option V} (h : sliceK P t x lo hi mx K = true) : ∃ v, K v = true := by
  rcases alt_inv h with ⟨hs, h1⟩ | ⟨hs, h1⟩
  · cases mx with
    | some m => cases h1
    | none =>
      obtain ⟨l, rfl, h2⟩ := onStr_inv (show onStr x _ = true from h1)
      obtain ⟨_, h3⟩ := bndO_ex (lnK_inv h2)
      obtain ⟨_, h4⟩ := bndO_ex h3
      obtain ⟨_, h5⟩ := dropK_inv h4
      rw [fN_eq] at h5
      obtain ⟨_, h6⟩ := takeK_inv h5
      exact ⟨_, h6⟩
  · obtain ⟨⟨al, es⟩, hq, h2⟩ := optK_inv h1
    cases al with
    | none =>
      rcases onSlish_inv (show onSlish x _ _ _ = true from h2) with ⟨b, off, len, cap, rfl, h3⟩ | ⟨rfl, h3⟩ | ⟨rfl, h3⟩
      · cases cap with
        | ex c => exact slEx_ex h3
        | op e =>
          cases mx with
          | none =>
            obtain ⟨_, h4⟩ := grd_inv (show grd _ _ = true from h3)
            obtain ⟨_, h5⟩ := bndO_ex (show bndO hi len len _ = true from h4)
            obtain ⟨_, h6⟩ := bndO_ex h5
            simp only [fN_eq] at h6
            exact ⟨_, h6⟩
          | some m =>
            obtain ⟨_, h4⟩ := bndO_ex (show bndO (some m) 0 len _ = true from h3)
            obtain ⟨_, h5⟩ := bndH_ex h4
            obtain ⟨_, h6⟩ := bndO_ex h5
            rcases alt_inv h6 with ⟨_, h7⟩ | ⟨_, h7⟩
            · exact ⟨_, h7⟩
            · exact mkSl_ex h7
      · exact ⟨_, slNo_ex h3⟩
      · exact ⟨_, slNo_ex h3⟩
    | some len =>
      obtain ⟨b, off, rfl, h3⟩ := onPtr_inv (show onPtr x _ = true from h2)
      exact slEx_ex h3
theorem outL_ex {ok : Bool} {v : V} {b : Bool} (h : outL ok v b K = true) : ∃ u, K u = true := by
  rcases alt_inv h with ⟨rfl, h1⟩ | ⟨rfl, h1⟩
  · exact ⟨_, h1⟩
  · exact ⟨_, h1⟩
theorem noneL_ex {e : TypeId} {ok : Bool} (h : noneL P e ok K = true) : ∃ u, K u = true := by
  obtain ⟨z, _, h1⟩ := optK_inv h
  exact outL_ex h1
theorem keyEq_ex {x y : V} {K : Bool → Bool} (h : keyEq x y K = true) : ∃ b, K b = true := by
  rcases keyC_inv h with ⟨k, n, rfl, h1⟩ | ⟨l, rfl, h1⟩
  · obtain ⟨k', n', rfl, h2⟩ := onInt_inv (show onInt y _ = true from h1)
    obtain ⟨_, h3⟩ := grd_inv h2
    exact ⟨_, by simpa using h3⟩
  · obtain ⟨r, rfl, h2⟩ := onStr_inv (show onStr y _ = true from h1)
    exact ⟨_, by simpa using h2⟩
theorem findE_ex {x : V} {f : Nat → V → Bool} {n : Bool} : ∀ {es : List (V × V)} {i : Nat}, findE x es i f n = true → n = true ∨ ∃ j v, f j v = true
  | [], i, h => .inl h
  | (k, v) :: es, i, h => by
    obtain ⟨b, h1⟩ := keyEq_ex (show keyEq x k (fun b => alt b (f i v) (fN (Nat.add i 1) fun i => findE x es i f n)) = true from h)
    rcases alt_inv h1 with ⟨_, h2⟩ | ⟨_, h2⟩
    · exact .inr ⟨i, v, h2⟩
    · rw [fN_eq] at h2; exact findE_ex h2
theorem lookupK_ex {t : TypeId} {m k : V} {ok : Bool} {h : Hp} (e : lookupK P t m k ok h K = true) : ∃ v, K v = true := by
  obtain ⟨⟨kt, el⟩, hq, h1⟩ := optK_inv e
  have h2 := keyOk_true h1
  rcases onMpN_inv h2 with ⟨b, rfl, h3⟩ | ⟨rfl, h3⟩
  · obtain ⟨clock, es, st, hb, h4⟩ := onMap_inv (show onMap h b _ = true from h3)
    rcases findE_ex h4 with h5 | ⟨j, v, h5⟩
    · exact noneL_ex h5
    · exact outL_ex h5
  · exact noneL_ex h3
theorem lenK_ex {t : TypeId} {x : V} {h : Hp} (e : lenK P t x h K = true) : ∃ v, K v = true := by
  obtain ⟨q, hq, h1⟩ := optK_inv e
  cases q with
  | str =>
    obtain ⟨l, rfl, h2⟩ := onStr_inv (show onStr x _ = true from h1)
    exact ⟨_, lnK_inv h2⟩
  | arr n => exact ⟨_, h1⟩
  | sl =>
    rcases onSlish_inv (show onSlish x _ _ _ = true from h1) with ⟨b, off, len, cap, rfl, h2⟩ | ⟨rfl, h2⟩ | ⟨rfl, h2⟩ <;> exact ⟨_, h2⟩
  | mp =>
    rcases onMpN_inv (show onMpN x _ _ = true from h1) with ⟨b, rfl, h2⟩ | ⟨rfl, h2⟩
    · obtain ⟨clock, es, st, hb, h3⟩ := onMap_inv h2
      exact ⟨_, lnK_inv h3⟩
    · exact ⟨_, h2⟩
theorem capK_ex {t : TypeId} {x : V} (e : capK P t x K = true) : ∃ v, K v = true := by
  obtain ⟨h0, h1⟩ := grd_inv e
  rcases onSlish_inv h1 with ⟨b, off, len, cap, rfl, h2⟩ | ⟨rfl, h2⟩ | ⟨rfl, h2⟩
  · cases cap with
    | op es => cases h2
    | ex c => exact ⟨_, h2⟩
  · exact ⟨_, h2⟩
  · cases h2
theorem foldM_ex (mx : Bool) : ∀ {l : List V} {k : IntKind} {x : Int}, foldM mx l k x K = true → ∃ v, K v = true
  | [], k, x, h => ⟨_, h⟩
  | y :: l, k, x, h => by
    obtain ⟨k', n, rfl, h1⟩ := onInt_inv (show onInt y _ = true from h)
    exact foldM_ex mx (mxK_inv h1)
theorem bytesOf_ex : ∀ {l : List V} {K : List Nat → Bool}, bytesOf l K = true → ∃ ns, K ns = true
  | [], K, h => ⟨[], h⟩
  | v :: l, K, h => by
    obtain ⟨k, n, rfl, h1⟩ := onInt_inv (show onInt v _ = true from h)
    obtain ⟨_, h2⟩ := grd_inv h1
    cases n with
    | negSucc n => cases h2
    | ofNat n =>
      obtain ⟨_, h3⟩ := grd_inv h2
      obtain ⟨ns, h4⟩ := bytesOf_ex (K := fun l => K (n :: l)) h3
      exact ⟨_, h4⟩
theorem convertK_ex {s d : TypeId} {x : V} {h : Hp} {K : V → Hp → Bool} (hp : cvPure P s d = true) (e : convertK P s d x h K = true) : ∃ v h', K v h' = true := by
  obtain ⟨c, hc, h1⟩ := optK_inv e
  cases c with
  | int k => obtain ⟨k', n, rfl, h2⟩ := cvInt_inv (show cvInt x h K k = true from h1); exact ⟨_, _, h2⟩
  | same => obtain ⟨l, rfl, h2⟩ := onStr_inv (show onStr x _ = true from h1); exact ⟨_, _, h2⟩
  | toS =>
    rcases onSlish_inv (show onSlish x _ _ _ = true from h1) with ⟨b, off, len, cap, rfl, h2⟩ | ⟨rfl, h2⟩ | ⟨rfl, h2⟩
    · obtain ⟨ro, cs, hb, h3⟩ := onCells_inv h2
      obtain ⟨h4, h5⟩ := dropK_inv h3
      obtain ⟨h6, h7⟩ := takeK_inv h5
      obtain ⟨ns, h8⟩ := bytesOf_ex h7
      exact ⟨_, _, h8⟩
    · exact ⟨_, _, h2⟩
    · exact ⟨_, _, h2⟩
  | toB => unfold cvPure at hp; rw [hc] at hp; cases hp
theorem findS_ex {s : Nat} : ∀ {es : List (V × V)} {st : List Nat}, findS s K es st = true → ∃ v, K v = true
  | [], _, h => by cases h
  | _ :: _, [], h => by cases h
  | (k, v) :: es, s' :: st, h => by
    rcases alt_inv (show alt (Nat.beq s' s) (K (.tup [k, v])) (findS s K es st) = true from h) with ⟨_, h2⟩ | ⟨_, h2⟩
    · exact ⟨_, h2⟩
    · exact findS_ex h2
theorem pureOp_ex {cf : CallF} {op : Op} (hp : pureOp P op = true) {tm : Tm} {ds : List Dfr} {h : Hp} {f : V → Bool} (e : operK cf op P tm ds h (fun v _ _ => f v) = true) : ∃ v, f v = true := by
  cases op <;> first | (cases hp; done) | skip
  case move x => exact ev_ex (show ev x tm f = true from e)
  case assign x => exact ev_ex (show ev x tm f = true from e)
  case pick c x y =>
    obtain ⟨v, h1⟩ := ev_ex (show ev c tm _ = true from e)
    obtain ⟨b, rfl, h2⟩ := onBool_inv h1
    rcases alt_inv h2 with ⟨_, h3⟩ | ⟨_, h3⟩
    · exact ev_ex h3
    · exact ev_ex h3
  case build t ps =>
    obtain ⟨vs, h1⟩ := partsV_ex (show partsV ps.toList tm _ = true from e)
    obtain ⟨z, hz, h2⟩ := optK_inv (grd_inv h1).2
    obtain ⟨zs, rfl, h3⟩ := onAgg_inv h2
    obtain ⟨q, hq, h4⟩ := optK_inv h3
    cases q with
    | none => obtain ⟨cs, h5⟩ := fillK_ex h4; exact ⟨_, h5⟩
    | some n => obtain ⟨cs, h5⟩ := fillK_ex h4; exact ⟨_, h5⟩
  case load t x =>
    obtain ⟨v, h1⟩ := ev_ex (show ev x tm _ = true from e)
    exact loadK_ex h1
  case nilCheck x =>
    obtain ⟨v, h1⟩ := ev_ex (show ev x tm _ = true from e)
    exact ⟨v, (onChk_inv h1).1⟩
  case binOp op t x y yt =>
    obtain ⟨v, h1⟩ := ev_ex (show ev x tm _ = true from e)
    obtain ⟨u, h2⟩ := ev_ex h1
    exact binK_ex h2
  case unOp op t x =>
    obtain ⟨v, h1⟩ := ev_ex (show ev x tm _ = true from e)
    exact unK_ex h1
  case convert sr d x =>
    obtain ⟨v, h1⟩ := ev_ex (show ev x tm _ = true from e)
    obtain ⟨u, _, h2⟩ := convertK_ex hp h1
    exact ⟨u, h2⟩
  case makeInterface t x =>
    obtain ⟨h0, h1⟩ := grd_inv (show grd _ _ = true from e)
    obtain ⟨v, h2⟩ := ev_ex h1
    exact ⟨_, h2⟩
  case makeFunc fn x y =>
    obtain ⟨v, h1⟩ := evs_ex (show evs x.toList tm _ = true from e)
    obtain ⟨u, h2⟩ := evs_ex h1
    exact ⟨_, h2⟩
  case slice t x lo hi mx =>
    obtain ⟨v, h1⟩ := ev_ex (show ev x tm _ = true from e)
    obtain ⟨l, h2⟩ := optV_ex h1
    obtain ⟨hh, h3⟩ := optV_ex h2
    obtain ⟨mm, h4⟩ := optV_ex h3
    exact sliceK_ex h4
  case fieldAddr t x n =>
    obtain ⟨v, h1⟩ := ev_ex (show ev x tm _ = true from e)
    obtain ⟨b, off, rfl, h2⟩ := onPtr_inv h1
    obtain ⟨o, ho, h3⟩ := optK_inv h2
    exact ⟨_, by simpa using h3⟩
  case field t x n =>
    obtain ⟨v, h1⟩ := ev_ex (show ev x tm _ = true from e)
    obtain ⟨cs, rfl, h2⟩ := onAgg_inv h1
    obtain ⟨fd, _, h3⟩ := optK_inv h2
    exact partK_ex h3
  case indexAddr t x i =>
    obtain ⟨v, h1⟩ := ev_ex (show ev x tm _ = true from e)
    obtain ⟨u, h2⟩ := ev_ex h1
    obtain ⟨⟨al, es⟩, hq, h3⟩ := optK_inv h2
    cases al with
    | none =>
      obtain ⟨b, off, len, cap, rfl, h4⟩ := onSl_inv (show onSl v _ = true from h3)
      obtain ⟨k, n, rfl, h5⟩ := onNatV_inv h4
      obtain ⟨_, h6⟩ := grd_inv h5
      exact ⟨_, by simpa using h6⟩
    | some len =>
      obtain ⟨b, off, rfl, h4⟩ := onPtr_inv (show onPtr v _ = true from h3)
      obtain ⟨k, n, rfl, h5⟩ := onNatV_inv h4
      obtain ⟨_, h6⟩ := grd_inv h5
      exact ⟨_, by simpa using h6⟩
  case index t x i =>
    obtain ⟨v, h1⟩ := ev_ex (show ev x tm _ = true from e)
    obtain ⟨u, h2⟩ := ev_ex h1
    unfold indexK at h2
    split at h2
    · obtain ⟨l, rfl, h3⟩ := onStr_inv h2
      obtain ⟨k, n, rfl, h4⟩ := onNatV_inv h3
      obtain ⟨c, hc, h5⟩ := nthN_inv h4
      exact ⟨_, h5⟩
    · obtain ⟨cs, rfl, h3⟩ := onAgg_inv h2
      obtain ⟨k, n, rfl, h4⟩ := onNatV_inv h3
      obtain ⟨_, h5⟩ := grd_inv h4
      obtain ⟨s, hs, h6⟩ := optK_inv h5
      exact partK_ex h6
    · cases h2
  case lookup t x k ok =>
    obtain ⟨v, h1⟩ := ev_ex (show ev x tm _ = true from e)
    obtain ⟨u, h2⟩ := ev_ex h1
    exact lookupK_ex h2
  case entry x =>
    obtain ⟨v, h1⟩ := ev_ex (show ev x tm _ = true from e)
    obtain ⟨b, off, rfl, h2⟩ := onPtr_inv h1
    obtain ⟨_, h3⟩ := grd_inv h2
    obtain ⟨blk, hb, h4⟩ := getK_inv h3
    rcases iterC_inv h4 with ⟨mb, since, seen, last, rfl, h6⟩ | ⟨_, _, _, h6⟩
    · obtain ⟨mb, rfl, h7⟩ := optK_inv (show optK mb _ = true from h6)
      cases seen with
      | nil => cases h7
      | cons s seen =>
        obtain ⟨clock, es, st, hmb, h8⟩ := onMap_inv (show onMap h mb _ = true from h7)
        obtain ⟨_, h10⟩ := grd_inv h8
        exact findS_ex h10
    · cases h6
  case extract x i =>
    obtain ⟨v, h1⟩ := ev_ex (show ev x tm _ = true from e)
    obtain ⟨l, rfl, h2⟩ := onTup_inv h1
    obtain ⟨u, hu, h3⟩ := nthK_inv h2
    exact ⟨_, h3⟩
  case call c =>
    obtain ⟨callee, args, ts⟩ := c
    cases callee with
    | value f => cases hp
    | invoke r n => cases hp
    | builtin b =>
      obtain ⟨vs, h1⟩ := evs_ex (show evs args.toList tm _ = true from e)
      cases b <;> first | (cases hp; done) | skip
      case len =>
        obtain ⟨t, ht, h2⟩ := ty1_inv (show ty1 ts.toList _ = true from h1)
        obtain ⟨v, rfl, h3⟩ := fst1_inv h2
        exact lenK_ex h3
      case cap =>
        obtain ⟨t, ht, h2⟩ := ty1_inv (show ty1 ts.toList _ = true from h1)
        obtain ⟨v, rfl, h3⟩ := fst1_inv h2
        exact capK_ex h3
      case max =>
        cases vs with
        | nil => cases h1
        | cons x l =>
          obtain ⟨k, n, rfl, h2⟩ := onInt_inv (show onInt x _ = true from h1)
          exact foldM_ex true h2
      case min =>
        cases vs with
        | nil => cases h1
        | cons x l =>
          obtain ⟨k, n, rfl, h2⟩ := onInt_inv (show onInt x _ = true from h1)
          exact foldM_ex false h2
theorem guardK_ex {ops : List Oper} {tm : Tm} {y n : Bool} {g : Nat × Bool} (h : guardK ops tm y n g = true) : y = true ∨ n = true := by
  obtain ⟨j, want⟩ := g
  have h : Option.rec (motive := fun _ => Bool) n (guardO want tm y n) (ops[j]?) = true := h
  cases ho : ops[j]? with
  | none => rw [ho] at h; exact .inr h
  | some o =>
    rw [ho] at h
    obtain ⟨dst, op, ty, pos, after, guard⟩ := o
    cases dst with
    | none => exact .inr h
    | some d =>
      obtain ⟨h1, h2⟩ := grd_inv (show grd (Nat.blt d 256) _ = true from h)
      rw [T3.get_eq] at h2
      obtain ⟨v, hv, h3⟩ := optK_inv h2
      cases v
      case bool b => cases b <;> cases want <;> first | exact .inl h3 | exact .inr h3
      all_goals exact .inr h3
theorem evalP_ex {cf : CallF} {ops : Array Oper} {it : It} (hp : pureOp P it.o.op = true) {tm : Tm} {ds : List Dfr} {h : Hp} {f : V → Bool} (e : evalP P cf ops it tm ds h f = true) : ∃ v, f v = true := by
  unfold evalP at e
  cases hg : it.o.guard with
  | none => rw [hg] at e; exact pureOp_ex hp e
  | some g =>
    rw [hg] at e
    rcases guardK_ex e with h1 | h1
    · exact pureOp_ex hp h1
    · exact ⟨_, h1⟩
end
end Go.Ev
namespace Go.Ev
noncomputable section

def eraseT (tm : Tm) : List Nat → Tm
  | [] => tm
  | d :: l => if d < 256 then T3.set (eraseT tm l) d none else eraseT tm l
theorem eraseT_in {tm : Tm} {x : Nat} (hx : x < 256) : ∀ {l : List Nat}, x ∈ l → T3.at (eraseT tm l) x = none
  | [], h => by cases h
  | d :: l, h => by
    unfold eraseT
    by_cases hd : d < 256
    · rw [if_pos hd]
      by_cases hdx : d = x
      · subst hdx; exact T3.at_set_same _ _ _
      · rw [T3.at_set_ne _ _ _ _ hd hx hdx]
        rcases List.mem_cons.1 h with rfl | h
        · exact absurd rfl hdx
        · exact eraseT_in hx h
    · rw [if_neg hd]
      rcases List.mem_cons.1 h with rfl | h
      · exact absurd hx hd
      · exact eraseT_in hx h
theorem eraseT_out {tm : Tm} {x : Nat} (hx : x < 256) : ∀ {l : List Nat}, x ∉ l → T3.at (eraseT tm l) x = T3.at tm x
  | [], _ => rfl
  | d :: l, h => by
    unfold eraseT
    have h1 : d ≠ x := fun e => h (by subst e; simp)
    have h2 : x ∉ l := fun e => h (List.mem_cons_of_mem _ e)
    by_cases hd : d < 256
    · rw [if_pos hd, T3.at_set_ne _ _ _ _ hd hx h1]; exact eraseT_out hx h2
    · rw [if_neg hd]; exact eraseT_out hx h2
/-- what the operations still to be done will write -/
def toCome (ops : Array Oper) (listed : Array Bool) : List Nat := (List.range ops.size).filterMap fun j => if listed.getD j false then none else (ops[j]?).bind (·.dst)
theorem mem_toCome {ops : Array Oper} {listed : Array Bool} {d : Nat} : d ∈ toCome ops listed ↔ ∃ (j : Nat) (o : Oper), ops[j]? = some o ∧ listed.getD j false = false ∧ o.dst = some d := by
  unfold toCome
  rw [List.mem_filterMap]
  constructor
  · rintro ⟨j, hj, h⟩
    split at h
    · cases h
    · rename_i hl
      cases ho : ops[j]? with
      | none => rw [ho] at h; cases h
      | some o => rw [ho] at h; exact ⟨j, o, ho, by simpa using hl, h⟩
  · rintro ⟨j, o, ho, hl, hd⟩
    have hj : j < ops.size := by
      rcases Nat.lt_or_ge j ops.size with h | h
      · exact h
      · rw [Array.getElem?_eq_none h] at ho; cases ho
    exact ⟨j, List.mem_range.2 hj, by rw [hl, ho]; simpa using hd⟩
theorem getD_set {listed : Array Bool} {i : Nat} (hi : i < listed.size) (j : Nat) : (listed.setIfInBounds i true).getD j false = if j = i then true else listed.getD j false := by
  by_cases h : j = i
  · subst h; simp [hi]
  · rw [getD_set_ne false (Ne.symm h), if_neg h]

section
variable {P : Program} {cf : CallF} {nt : Nat} {ops : Array Oper} {its : List It} {fm : Nat} {G : Fr} {m0 : M} {h0 : Hp} {rm : Nat} {rest : List It} {dnb : Nat} {fl : List FS} {tm : Tm} {ds : List Dfr} {h : Hp} {listed : Array Bool} {a : Act} {w : World} {m : M} {g : Nat → Option Obj}
theorem openL_ok (hits : ∀ it ∈ its, ops[it.i]? = some it.o) : ∀ {l : List It} {fl : List FS} {tm : Tm} {h : Hp} {g : Nat → Option Obj} (v : PInv P nt ops its fm G m0 h0 rm rest dnb fl tm ds h listed a w m g),
    (∀ it ∈ l, it ∈ its ∧ nonch P fm it = true ∧ avail rm it = true ∧ listed.getD it.i false = false) → l.Pairwise (fun x y => x.i < y.i) → (∀ f ∈ fl, ∀ it ∈ l, f.i ≠ it.i) → ∀ {K : List FS → Tm → Hp → Bool},
    openL P cf nt ops l fl tm ds h K = true → ∃ fl' tm' h' g', PInv P nt ops its fm G m0 h0 rm rest dnb fl' tm' ds h' listed a w m g' ∧ K fl' tm' h' = true
  | [], fl, tm, h, g, v, _, _, _, K, e => ⟨fl, tm, h, g, v, e⟩
  | it :: l, fl, tm, h, g, v, hl, hp, hf, K, e => by
    obtain ⟨h1, h2, h3, h4⟩ := hl it (by simp)
    obtain ⟨p1, p2⟩ := List.pairwise_cons.1 hp
    have e : openOne P cf nt ops it fl tm ds h (fun fl tm h => openL P cf nt ops l fl tm ds h K) = true := e
    rcases alt_inv e with ⟨hpure, h5⟩ | ⟨hpure, h5⟩
    · obtain ⟨u, h6⟩ := evalP_ex hpure h5
      obtain ⟨tm', v', h7⟩ := v.lay (hits it h1) h4 h6
      exact openL_ok hits v' (fun x hx => hl x (by simp [hx])) p2 (fun f hf' x hx => hf f hf' x (by simp [hx])) h7
    · obtain ⟨f, tm', h', g', hfi, v', h6⟩ := v.opened hits h1 h2 hpure h3 h4 (fun f hf' => hf f hf' it (by simp)) h5
      refine openL_ok hits v' (fun x hx => hl x (by simp [hx])) p2 (fun f' hf' x hx => ?_) h6
      rcases List.mem_cons.1 hf' with rfl | hf'
      · rw [hfi]; have := p1 x hx; omega
      · exact hf f' hf' x (by simp [hx])
theorem PInv.trel (v : PInv P nt ops its fm G m0 h0 rm rest dnb fl tm ds h listed a w m g) : TRel m nt (eraseT tm (toCome ops listed)) a := by
  refine ⟨v.sz, v.le, fun t u ht hu => ?_⟩
  by_cases hx : t ∈ toCome ops listed
  · rw [eraseT_in ht hx] at hu; cases hu
  · rw [eraseT_out ht hx] at hu
    rcases v.tmp t u ht hu with h | h
    · exact absurd (mem_toCome.2 h) hx
    · exact h
theorem PInv.srel (v : PInv P nt ops its fm G m0 h0 rm rest dnb fl tm ds h listed a w m g) : SRel (G.over g) m nt (eraseT tm (toCome ops listed)) ds h a w := ⟨v.trel, v.dr, v.hr, v.gr⟩
/-- what an operation that may come now looks at is known -/
theorem sees (hits : ∀ (j : Nat) o, ops[j]? = some o → ∃ it ∈ its, it.i = j ∧ it.o = o) {it : It} (hlook : lookOk ops its it = true) (hb : ∀ j, it.bf.testBit j = true → listed.getD j false = true) (tm : Tm) :
    (∀ x ∈ it.o.op.operands, ev x tm = ev x (eraseT tm (toCome ops listed))) ∧ (∀ y n g, it.o.guard = some g → guardK ops.toList tm y n g = guardK ops.toList (eraseT tm (toCome ops listed)) y n g) := by
  have hl : ((it.o.looksAt ops).all (fun t => its.all fun jt => match jt.o.dst with
    | some d => or (not (Nat.beq d t)) (not (tz it.bf jt.i))
    | none => true)) = true := by
    have h1 : (_ && _) = true := hlook
    rw [Bool.and_eq_true] at h1
    exact h1.1
  have key : ∀ t ∈ it.o.looksAt ops, t ∉ toCome ops listed := by
    intro t ht hc
    obtain ⟨j, o, ho, hu, hd⟩ := mem_toCome.1 hc
    obtain ⟨jt, hj, rfl, rfl⟩ := hits j o ho
    have h1 := List.all_eq_true.1 hl t ht
    have h2 := List.all_eq_true.1 h1 jt hj
    rw [hd] at h2
    have h3 : Nat.beq t t = true := by simp
    simp only [h3, tz_eq] at h2
    have h4 : it.bf.testBit jt.i = true := by simpa using h2
    rw [hb _ h4] at hu
    cases hu
  have evk : ∀ t, t ∈ it.o.looksAt ops → ev (.tmp t) tm = ev (.tmp t) (eraseT tm (toCome ops listed)) := by
    intro t ht
    funext K
    show grd (Nat.blt t 256) (T3.get t tm (optVK K)) = grd (Nat.blt t 256) (T3.get t _ (optVK K))
    cases hb : Nat.blt t 256 with
    | false => rfl
    | true => rw [T3.get_eq, T3.get_eq, eraseT_out (Nat.of_blt hb) (key t ht)]
  refine ⟨fun x hx => ?_, fun y n g hg => ?_⟩
  · cases x with
    | tmp t => exact evk t (List.mem_append_left _ (List.mem_filterMap.2 ⟨.tmp t, by simpa using hx, rfl⟩))
    | const c => rfl
    | global gl => rfl
    | func f => rfl
  · obtain ⟨j, want⟩ := g
    show Option.rec (motive := fun _ => Bool) n (guardO want tm y n) (ops.toList[j]?) = Option.rec (motive := fun _ => Bool) n (guardO want _ y n) (ops.toList[j]?)
    have e1 : ops.toList[j]? = ops[j]? := Array.getElem?_toList
    rw [e1]
    cases ho : ops[j]? with
    | none => rfl
    | some o =>
      obtain ⟨dst, op, ty, pos, after, guard⟩ := o
      cases dst with
      | none => rfl
      | some d =>
        show guardD want tm y n d = guardD want _ y n d
        unfold guardD
        cases hb : Nat.blt d 256 with
        | false => rfl
        | true =>
          rw [T3.get_eq, T3.get_eq, eraseT_out (Nat.of_blt hb) (key d ?_)]
          refine List.mem_append_right _ ?_
          rw [hg]
          simp [ho]

/-- one that makes a value, or stood aside, is done -/
theorem PInv.listT (hits : ∀ it ∈ its, ops[it.i]? = some it.o) (hinj : ∀ x ∈ its, ∀ y ∈ its, x.i = y.i → x = y) (v : PInv P nt ops its fm G m0 h0 rm rest dnb fl tm ds h listed a w m g) {it : It} (hit : it ∈ its) (hi : it.i < listed.size)
    (he : ∀ e ∈ it.o.after, Region.binds .any e = true → listed.getD e.on false = true) :
    Closed ops (listed.setIfInBounds it.i true) ∧ (∀ j, listed.getD j false = true → (listed.setIfInBounds it.i true).getD j false = true) := by
  have mono : ∀ j, listed.getD j false = true → (listed.setIfInBounds it.i true).getD j false = true := fun j hj => getD_set_true hj
  refine ⟨fun j o ho hj e he' hb => ?_, mono⟩
  rw [getD_set hi] at hj
  by_cases hji : j = it.i
  · subst hji
    rw [hits it hit] at ho
    cases ho
    exact mono _ (he e he' hb)
  · rw [if_neg hji] at hj
    exact mono _ (v.cl j o ho hj e he' hb)
theorem PInv.putT (v : PInv P nt ops its fm G m0 h0 rm rest dnb fl tm ds h listed a w m g) {it : It} (hit : ops[it.i]? = some it.o) (hi : it.i < listed.size) {m' : M} (hle : Le m m') {u : V} {u' : Value} (ru : VRel m' u u') (hst : ∀ d, it.o.dst = some d → d < nt ∧ T3.at tm d = some u) :
    (a.put it.o.dst u').tmps.size = nt ∧ ∀ x v, x < 256 → T3.at tm x = some v → (∃ (j : Nat) (o : Oper), ops[j]? = some o ∧ (listed.setIfInBounds it.i true).getD j false = false ∧ o.dst = some x) ∨ ∃ v', (a.put it.o.dst u').tmps[x]? = some v' ∧ VRel m' v v' := by
  refine ⟨?_, fun x y hx hy => ?_⟩
  · cases it.o.dst <;> simp [Act.put, v.sz]
  · by_cases hd : it.o.dst = some x
    · obtain ⟨h1, h2⟩ := hst x hd
      rw [h2] at hy
      cases hy
      exact .inr ⟨u', by rw [hd]; simp [Act.put, v.sz, h1], ru⟩
    · rcases v.tmp x y hx hy with ⟨j, o, ho, hl, hod⟩ | ⟨v', h1, h2⟩
      · have hj : j ≠ it.i := fun e => by subst e; rw [hit] at ho; cases ho; exact hd hod
        exact .inl ⟨j, o, ho, by rw [getD_set hi, if_neg hj]; exact hl, hod⟩
      · refine .inr ⟨v', ?_, h2.mono hle⟩
        cases hdd : it.o.dst with
        | none => exact h1
        | some d =>
          have hne : d ≠ x := fun e => hd (by rw [hdd, e])
          simp only [Act.put]
          rw [Array.getElem?_setIfInBounds_ne hne]; exact h1
end
end
end Go.Ev
namespace Go.Ev
noncomputable section

theorem fcells_congr {P : Program} {tm tm2 : Tm} {op : Op} (h : ∀ x ∈ op.operands, ev x tm = ev x tm2) : fcells P op tm = fcells P op tm2 := by
  funext K
  cases op <;> first | rfl | skip
  case box t x =>
    have h1 := h x (by simp [Op.operands])
    show ev x tm _ = ev x tm2 _
    rw [h1]
  case makeMap t r => cases r <;> rfl
  case buildSlice t n ps =>
    have := partsV_congr (tm := tm) (tm2 := tm2) (l := ps.toList) fun p hp => h p.2 (by simp only [Op.operands]; simp; exact ⟨p.1, by simpa using hp⟩)
    show partsV ps.toList tm _ = partsV ps.toList tm2 _
    rw [this]
theorem fs_pair {fl : List FS} (h : fl.Pairwise (fun f f' => f.b ≠ f'.b ∧ f.i ≠ f'.i)) : ∀ {x y : FS}, x ∈ fl → y ∈ fl → x = y ∨ (x.b ≠ y.b ∧ x.i ≠ y.i) := by
  induction fl with
  | nil => intro x y hx; cases hx
  | cons z l ih =>
    obtain ⟨h1, h2⟩ := List.pairwise_cons.1 h
    intro x y hx hy
    rcases List.mem_cons.1 hx with rfl | hx'
    · rcases List.mem_cons.1 hy with rfl | hy'
      · exact .inl rfl
      · exact .inr (h1 y hy')
    · rcases List.mem_cons.1 hy with rfl | hy'
      · obtain ⟨q1, q2⟩ := h1 x hx'; exact .inr ⟨q1.symm, q2.symm⟩
      · exact ih h2 hx' hy'

section
variable {P : Program} {cf : CallF} {nt : Nat} {ops : Array Oper} {its : List It} {fm : Nat} {G : Fr} {m0 : M} {h0 : Hp} {rm : Nat} {rest : List It} {dnb : Nat} {fl : List FS} {tm : Tm} {ds : List Dfr} {h : Hp} {listed : Array Bool} {a : Act} {w : World} {m : M} {g : Nat → Option Obj}
/-- what is known of a region's items -/
structure Its (P : Program) (ops : Array Oper) (its : List It) : Prop where
  at_ : ∀ it ∈ its, ops[it.i]? = some it.o
  mask : ∀ it ∈ its, MaskOk ops it.o it.bf
  inj : ∀ x ∈ its, ∀ y ∈ its, x.i = y.i → x = y
  cov : ∀ (j : Nat) o, ops[j]? = some o → ∃ it ∈ its, it.i = j ∧ it.o = o
  look : ∀ it ∈ its, lookOk ops its it = true
  asc : its.Pairwise (fun x y => x.i < y.i)
/-- an operation may come now -/
structure Now (ops : Array Oper) (listed : Array Bool) (it : It) : Prop where
  un : listed.getD it.i false = false
  lt : it.i < listed.size
  ed : ∀ e ∈ it.o.after, Region.binds .any e = true → listed.getD e.on false = true

theorem PInv.pureDone (I : Its P ops its) (v : PInv P nt ops its fm G m0 h0 rm rest dnb fl tm ds h listed a w m g) {it : It} (hit : it ∈ its) (hnc : nonch P fm it = true) (hav : avail rm it = true) (now : Now ops listed it) (hfl : ∀ f ∈ fl, f.i ≠ it.i)
    {u : V} {u' : Value} (ru : VRel m u u') (hst : ∀ d, it.o.dst = some d → d < nt ∧ T3.at tm d = some u) :
    PInv P nt ops its fm G m0 h0 rm rest dnb fl tm ds h (listed.setIfInBounds it.i true) (a.put it.o.dst u') w m g := by
  obtain ⟨hcl, mono⟩ := v.listT I.at_ I.inj hit now.lt now.ed
  obtain ⟨hsz, htmp⟩ := v.putT (I.at_ it hit) now.lt (Le.refl m) ru hst
  refine { v with cl := hcl, tmp := htmp, sz := hsz, lsz := by rw [← v.lsz]; simp, dr := by cases it.o.dst <;> exact v.dr, restU := fun x hx => ?_, restL := fun x hx hn => ?_, dn := fun j hj => mono j (v.dn j hj), flo := fun f hf => ?_, lav := fun x hx hn hl => ?_ }
  · obtain ⟨q1, q2, q3⟩ := v.restU x hx
    have hne : x.i ≠ it.i := fun e => by have := I.inj x q1 it hit e; subst this; rw [hnc] at q2; cases q2
    exact ⟨q1, q2, by rw [getD_set now.lt, if_neg hne]; exact q3⟩
  · rcases v.restL x hx hn with h1 | h1
    · exact .inl h1
    · exact .inr (mono _ h1)
  · obtain ⟨q1, q2, q3⟩ := v.flo f hf
    refine ⟨q1, ?_, q3⟩
    rw [getD_set now.lt, if_neg (hfl f hf)]
    exact q2
  · rw [getD_set now.lt] at hl
    by_cases hxi : x.i = it.i
    · rw [I.inj x hx it hit hxi]; exact hav
    · rw [if_neg hxi] at hl; exact v.lav x hx hn hl
theorem pure_step (I : Its P ops its) (hP : Fields P) (v : PInv P nt ops its fm G m0 h0 rm rest dnb fl tm ds h listed a w m g) {it : It} (hit : it ∈ its) (hp : pureOp P it.o.op = true) (hav : avail rm it = true) (now : Now ops listed it) (hb : ∀ j, it.bf.testBit j = true → listed.getD j false = true)
    (e : evalP P cf ops it tm ds h (fun u => stored nt it.o.dst tm u) = true) {K : Act → World → Prop} {Q : Exit → Act → World → Prop}
    (hK : ∀ a', PInv P nt ops its fm G m0 h0 rm rest dnb fl tm ds h (listed.setIfInBounds it.i true) a' w m g → K a' w) : wpOp P ops Q it.i K a w := by
  have hnc : nonch P fm it = true := by unfold nonch; rw [hp]; rfl
  have hfl : ∀ f ∈ fl, f.i ≠ it.i := fun f hf e => by
    obtain ⟨_, _, x, hx, hxi, _, hxp, _⟩ := v.flo f hf
    have := I.inj x hx it hit (hxi.trans e)
    subst this; rw [hp] at hxp; cases hxp
  obtain ⟨c1, c2⟩ := sees I.cov (I.look it hit) hb tm
  have hop : operK cf it.o.op P tm = operK cf it.o.op P (eraseT tm (toCome ops listed)) := operK_congr c1
  have run : operK cf it.o.op P tm ds h (fun u _ _ => stored nt it.o.dst tm u) = true → it.o.wp P a w K Q := by
    intro e1
    rw [hop] at e1
    obtain ⟨u, u', hr, ru, hs⟩ := oper_one hP v.srel hp e1
    unfold Oper.wp
    rw [hr]
    exact hK _ (v.pureDone I hit hnc hav now hfl ru (stored_inv hs))
  have skip : stored nt it.o.dst tm nilT = true → K (a.put it.o.dst undef) w := fun hs => hK _ (v.pureDone I hit hnc hav now hfl (u := nilT) (VRel.tup [] [] .nil) (stored_inv hs))
  unfold wpOp
  rw [I.at_ it hit]
  unfold evalP at e
  cases hg : it.o.guard with
  | none =>
    rw [hg] at e
    have hw : Region.wanted it.o (yielded ops a.tmps) = true := by simp [Region.wanted, hg]
    simp only [hw, if_true]
    exact .inl (run e)
  | some gd =>
    rw [hg] at e
    have e : guardK ops.toList tm (operK cf it.o.op P tm ds h fun v _ _ => stored nt it.o.dst tm v) (stored nt it.o.dst tm nilT) gd = true := e
    rw [c2 _ _ gd hg] at e
    rcases guardK_inv v.trel e with ⟨h1, h2⟩ | ⟨h1, h2⟩
    · have hw : Region.wanted it.o (yielded ops a.tmps) = true := by simp only [Region.wanted, hg]; exact h1
      simp only [hw, if_true]
      exact .inl (run h2)
    · have hw : Region.wanted it.o (yielded ops a.tmps) = false := by simp only [Region.wanted, hg]; exact h1
      simp only [hw, Bool.false_eq_true, if_false]
      exact skip h2

theorem float_step (I : Its P ops its) (v : PInv P nt ops its fm G m0 h0 rm rest dnb fl tm ds h listed a w m g) {it : It} (hit : it ∈ its) (hnc : nonch P fm it = true) (hav : avail rm it = true) (now : Now ops listed it) (hb : ∀ j, it.bf.testBit j = true → listed.getD j false = true)
    {f : FS} (hf : f ∈ fl) (hfi : f.i = it.i) (e : chkF P nt f tm h = true) {K : Act → World → Prop} {Q : Exit → Act → World → Prop}
    (hK : ∀ a' w' m' g', PInv P nt ops its fm G m0 h0 rm rest dnb fl tm ds h (listed.setIfInBounds it.i true) a' w' m' g' → K a' w') : wpOp P ops Q it.i K a w := by
  obtain ⟨f1, f2, _⟩ := v.flo f hf
  rw [hfi, now.un] at f2
  have hfo : f.o = it.o := by rw [hfi, I.at_ it hit] at f1; exact (Option.some.inj f1).symm
  obtain ⟨c1, _⟩ := sees I.cov (I.look it hit) hb tm
  obtain ⟨hcl, mono⟩ := v.listT I.at_ I.inj hit now.lt now.ed
  have restU : ∀ x ∈ rest, x ∈ its ∧ nonch P fm x = false ∧ (listed.setIfInBounds it.i true).getD x.i false = false := fun x hx => by
    obtain ⟨q1, q2, q3⟩ := v.restU x hx
    have hne : x.i ≠ it.i := fun e => by have := I.inj x q1 it hit e; subst this; rw [hnc] at q2; cases q2
    exact ⟨q1, q2, by rw [getD_set now.lt, if_neg hne]; exact q3⟩
  have restL : ∀ x ∈ its, nonch P fm x = false → x ∈ rest ∨ (listed.setIfInBounds it.i true).getD x.i false = true := fun x hx hn => by
    rcases v.restL x hx hn with h1 | h1
    · exact .inl h1
    · exact .inr (mono _ h1)
  have lav : ∀ x ∈ its, nonch P fm x = true → (listed.setIfInBounds it.i true).getD x.i false = true → avail rm x = true := fun x hx hn hl => by
    rw [getD_set now.lt] at hl
    by_cases hxi : x.i = it.i
    · rw [I.inj x hx it hit hxi]; exact hav
    · rw [if_neg hxi] at hl; exact v.lav x hx hn hl
  have hg : it.o.guard = none := by
    cases hg : it.o.guard with
    | none => rfl
    | some x => unfold chkF at e; rw [hfo, hg] at e; cases e
  have e : Option.rec (motive := fun _ => Bool) (chkA P nt f tm) (fun old => chkO P nt f old tm h) f.old = true := by
    unfold chkF at e; rw [hfo, hg] at e; exact e
  have hw : Region.wanted it.o (yielded ops a.tmps) = true := by simp [Region.wanted, hg]
  unfold wpOp
  rw [I.at_ it hit]
  simp only [hw, if_true]
  refine .inl ?_
  cases hold : f.old with
  | none =>
    rw [hold] at e
    have e : fcells P it.o.op tm (fun x q => grd (eqBlk x f.new) (stored nt f.o.dst tm (mkV q f.b))) = true := by rw [← hfo]; exact e
    rw [fcells_congr c1] at e
    obtain ⟨xb, q, sz, ob, hk, rob, hrun⟩ := fcells_run v.gr v.trel e
    obtain ⟨k1, k2⟩ := grd_inv hk
    have k3 := eqBlk_eq k1
    rw [hfo] at k2
    have hun : m f.b = .un := by have := f2.blk; rw [hold] at this; exact this
    obtain ⟨r', hle, hgs, hGs⟩ := v.hr.newGhost hun f2.lt 0 sz ob
    have hmf : (m.set f.b (.live w.heap.size 0 sz)) f.b = .live w.heap.size 0 sz := by simp
    obtain ⟨hsz, htmp⟩ := v.putT (I.at_ it hit) now.lt hle (mkV_rel hmf q) (stored_inv k2)
    unfold Oper.wp
    rw [hrun w]
    refine hK _ _ _ _ { v with ext := ?_, hr := r', gr := v.gr.mono hle, dr := ?_, gg := fun B o hB => ?_, sz := hsz, tmp := htmp, cl := hcl, lsz := by rw [← v.lsz]; simp, restU := restU, restL := restL, dn := fun j hj => mono j (v.dn j hj), flo := fun f' hf' => ?_, lav := lav }
    · refine ⟨v.ext.le.trans hle, v.ext.nx, fun b hb hn => ?_⟩
      have hne : b ≠ f.b := fun eb => by
        subst eb
        rcases f2.old with h1 | h1
        · omega
        · exact h1 hn
      obtain ⟨q1, q2⟩ := v.ext.keep b hb hn
      exact ⟨q1, by rw [M.set_ne _ _ hne]; exact q2⟩
    · have : (a.put it.o.dst (mkVal q w.heap.size)).defers = a.defers := by cases it.o.dst <;> rfl
      rw [this]; exact v.dr.mono hle
    · by_cases hBs : B = w.heap.size
      · rw [hBs]; exact hGs
      · rw [gset_ne _ _ hBs] at hB; exact v.gg B o hB
    · obtain ⟨q1, q2, q3⟩ := v.flo f' hf'
      rcases fs_pair v.fld hf hf' with rfl | ⟨hne, hnei⟩
      · refine ⟨q1, ⟨f2.out, f2.lt, f2.old, ?_⟩, q3⟩
        rw [hfi, getD_set now.lt, if_pos rfl, if_pos rfl]
        refine ⟨w.heap.size, 0, sz, ob, hmf, by simp, hGs, ?_⟩
        rw [← k3]
        exact rob _ hle
      · refine ⟨q1, ?_, q3⟩
        have hji : f'.i ≠ it.i := fun e => hnei (by rw [hfi, e])
        rw [getD_set now.lt, if_neg hji]
        have q4 := q2.gnew (B := w.heap.size) (y := some ob) hgs
        exact ⟨q4.out, q4.lt, q4.old, q4.blk.ext (M.set_ne _ _ (Ne.symm hne)) hle⟩
  | some oldb =>
    rw [hold] at e
    have e : chkO P nt f oldb tm h = true := e
    unfold chkO at e
    rw [hfo] at e
    cases hop : it.o.op <;> rw [hop] at e <;> first | (cases e; done) | skip
    rename_i t p x
    rw [hop] at c1
    have e : ev p tm (fun pv => onPtr pv fun b _ => grd (eqId b f.b) (ev x tm fun xv => setB h b (some oldb) fun h1 => storeK P t h1 pv xv fun h2 => getK h2 b fun new => grd (eqBlk new f.new) (stored nt f.o.dst tm nilT))) = true := e
    rw [c1 p (by simp [Op.operands]), c1 x (by simp [Op.operands]), hfo] at e
    obtain ⟨pv, rp, e1⟩ := ev_inv v.gr v.trel e
    obtain ⟨b, off, rfl, e2⟩ := onPtr_inv e1
    obtain ⟨e3, e4⟩ := grd_inv e2
    have e3 := eqId_eq e3
    subst e3
    obtain ⟨xv, rx, e5⟩ := ev_inv v.gr v.trel e4
    have e6 := setB_inv e5
    obtain ⟨B, base, sz, o, hm, hgB, hGB, hbr⟩ : PendB m g G f.b (some oldb) := by have := f2.blk; rw [hold] at this; exact this
    have r1 := v.hr.putIn hm hgB hGB hbr
    obtain ⟨b', off', cs2, w', hpe, hrun, r2, e7⟩ := storeK_full (P := P) r1 rp rx e6
    cases hpe
    obtain ⟨new, hnew, e8⟩ := getK_inv e7
    rw [Hp.at_set_same] at hnew
    cases hnew
    obtain ⟨e9, e10⟩ := grd_inv e8
    have e11 := eqBlk_eq e9
    obtain ⟨B', base', sz', o', hm', hbr', hw', hg', hG', r3⟩ := r2.takeOut (Hp.at_set_same _ _ _) rfl
    rw [hm] at hm'
    cases hm'
    rw [Hp.set_set, Hp.set_set, Hp.set_self f2.out, gset_gset] at r3
    obtain ⟨hsz, htmp⟩ := v.putT (I.at_ it hit) now.lt (Le.refl m) (u := nilT) (u' := undef) (VRel.tup [] [] .nil) (stored_inv e10)
    have hrun2 : (execOp a.eval it.o).run P w = .ok .skip w' := by
      have hx : execOp a.eval it.o = (do Instr.storeAt t (a.eval p) (a.eval x); pure Next.skip) := by
        unfold execOp
        rw [hop]
      rw [hx]; simp [hrun]
    unfold Oper.wp
    rw [hrun2]
    refine hK _ _ _ _ { v with hr := r3, dr := ?_, gg := fun C u hC => ?_, sz := hsz, tmp := htmp, cl := hcl, lsz := by rw [← v.lsz]; simp, restU := restU, restL := restL, dn := fun j hj => mono j (v.dn j hj), flo := fun f' hf' => ?_, lav := lav }
    · have : (a.put it.o.dst undef).defers = a.defers := by cases it.o.dst <;> rfl
      rw [this]; exact v.dr
    · by_cases hCB : C = B
      · rw [hCB]; exact hGB
      · rw [gset_ne _ _ hCB] at hC; exact v.gg C u hC
    · obtain ⟨q1, q2, q3⟩ := v.flo f' hf'
      rcases fs_pair v.fld hf hf' with rfl | ⟨hne, hnei⟩
      · refine ⟨q1, ⟨f2.out, f2.lt, f2.old, ?_⟩, q3⟩
        rw [hfi, getD_set now.lt, if_pos rfl, if_pos rfl]
        exact ⟨B, base, sz, o', hm, by simp, hGB, e11 ▸ hbr'⟩
      · refine ⟨q1, ?_, q3⟩
        have hji : f'.i ≠ it.i := fun e => hnei (by rw [hfi, e])
        rw [getD_set now.lt, if_neg hji]
        exact q2.gset (fun bs s hc => hne (v.hr.inj _ _ _ _ _ _ _ hm hc))

-- what stood aside goes back
theorem PInv.close (v : PInv P nt ops its fm G m0 h0 rm rest dnb fl tm ds h listed a w m g) {f : FS} (hf : f ∈ fl) (hl : listed.getD f.i false = true) {fl' : List FS} (hsub : ∀ x ∈ fl', x ∈ fl ∧ x.b ≠ f.b) (hp : fl'.Pairwise (fun f f' => f.b ≠ f'.b ∧ f.i ≠ f'.i)) :
    ∃ g', PInv P nt ops its fm G m0 h0 rm rest dnb fl' tm ds (h.set f.b (some f.new)) listed a w m g' := by
  obtain ⟨f1, f2, _⟩ := v.flo f hf
  rw [hl] at f2
  obtain ⟨B, base, sz, o, hm, hgB, hGB, hbr⟩ : PendB m g G f.b (some f.new) := f2.blk
  refine ⟨gset g B none, { v with ext := ?_, hr := v.hr.putIn hm hgB hGB hbr, gg := fun C u hC => ?_, flo := fun x hx => ?_, fld := hp }⟩
  · refine ⟨v.ext.le, v.ext.nx, fun b hb hn => ?_⟩
    have hne : b ≠ f.b := fun eb => by
      subst eb
      rcases f2.old with h1 | h1
      · omega
      · exact h1 hn
    obtain ⟨q1, q2⟩ := v.ext.keep b hb hn
    exact ⟨by rw [Hp.at_set_ne _ _ hne]; exact q1, q2⟩
  · by_cases hCB : C = B
    · rw [hCB]; exact hGB
    · rw [gset_ne _ _ hCB] at hC; exact v.gg C u hC
  · obtain ⟨h1, h2⟩ := hsub x hx
    obtain ⟨q1, q2, q3⟩ := v.flo x h1
    exact ⟨q1, (q2.set h2).gset (fun bs s hc => h2 (v.hr.inj _ _ _ _ _ _ _ hc hm)), q3⟩
theorem closeW_ok {bf : Nat} (hbf : ∀ j, bf.testBit j = true → listed.getD j false = true) : ∀ {l kept : List FS} {h : Hp} {g : Nat → Option Obj} (v : PInv P nt ops its fm G m0 h0 rm rest dnb (kept ++ l) tm ds h listed a w m g) {K : List FS → Hp → Bool},
    closeW bf l h (fun l h => K (kept ++ l) h) = true → ∃ fl' h' g', PInv P nt ops its fm G m0 h0 rm rest dnb fl' tm ds h' listed a w m g' ∧ K fl' h' = true
  | [], kept, h, g, v, K, e => ⟨kept, h, g, by simpa using v, by simpa using (show K (kept ++ []) h = true from e)⟩
  | f :: l, kept, h, g, v, K, e => by
    rcases alt_inv (show alt (tz bf f.i) (closeW bf l h fun fl h => K (kept ++ f :: fl) h) (setB h f.b (some f.new) fun h => closeW bf l h fun l h => K (kept ++ l) h) = true from e) with ⟨h1, h2⟩ | ⟨h1, h2⟩
    · refine closeW_ok hbf (l := l) (kept := kept ++ [f]) (h := h) (g := g) (by simpa using v) (K := K) ?_
      simpa using h2
    · have hbit : bf.testBit f.i = true := by rw [tz_eq] at h1; simpa using h1
      have hpw := v.fld
      have hf : f ∈ kept ++ f :: l := by simp
      obtain ⟨g', v'⟩ := v.close hf (hbf _ hbit) (fl' := kept ++ l) (fun x hx => by
        refine ⟨by rcases List.mem_append.1 hx with h | h <;> simp [h], fun eb => ?_⟩
        rw [List.pairwise_append] at hpw
        obtain ⟨p1, p2, p3⟩ := hpw
        rcases List.mem_append.1 hx with h | h
        · exact (p3 x h f (by simp)).1 eb
        · exact ((List.pairwise_cons.1 p2).1 x h).1 eb.symm) (by
        rw [List.pairwise_append] at hpw ⊢
        obtain ⟨p1, p2, p3⟩ := hpw
        exact ⟨p1, (List.pairwise_cons.1 p2).2, fun x hx y hy => p3 x hx y (by simp [hy])⟩)
      exact closeW_ok hbf v' (setB_inv h2)
theorem closeL_ok : ∀ {l : List FS} {h : Hp} {g : Nat → Option Obj} (v : PInv P nt ops its fm G m0 h0 rm rest dnb l tm ds h listed a w m g) (hl : ∀ f ∈ l, listed.getD f.i false = true) {K : Hp → Bool},
    closeL l h K = true → ∃ h' g', PInv P nt ops its fm G m0 h0 rm rest dnb [] tm ds h' listed a w m g' ∧ K h' = true
  | [], h, g, v, hl, K, e => ⟨h, g, v, e⟩
  | f :: l, h, g, v, hl, K, e => by
    have h2 := setB_inv (show setB h f.b (some f.new) (fun h => closeL l h K) = true from e)
    obtain ⟨p1, p2⟩ := List.pairwise_cons.1 v.fld
    obtain ⟨g', v'⟩ := v.close (by simp) (hl f (by simp)) (fl' := l) (fun x hx => ⟨by simp [hx], fun eb => (p1 x hx).1 eb.symm⟩) p2
    exact closeL_ok v' (fun x hx => hl x (by simp [hx])) h2
end
end
end Go.Ev
namespace Go.Ev
noncomputable section

def unl (l : List Bool) : Nat := l.count false
theorem unl_set : ∀ {l : List Bool} {i : Nat}, l[i]? = some false → unl (l.set i true) + 1 = unl l
  | [], i, h => by simp at h
  | b :: l, 0, h => by
    simp at h
    subst h
    simp [unl, List.count_cons]
  | b :: l, i + 1, h => by
    have := unl_set (l := l) (i := i) (by simpa using h)
    simp only [unl, List.set_cons_succ, List.count_cons] at this ⊢
    omega
theorem unl_zero : ∀ {l : List Bool}, unl l = 0 → ∀ b ∈ l, b = true
  | [], _, b, hb => by cases hb
  | c :: l, h, b, hb => by
    simp only [unl, List.count_cons] at h
    cases c with
    | false => simp at h
    | true =>
      rcases List.mem_cons.1 hb with rfl | hb
      · rfl
      · exact unl_zero (l := l) (by simpa [unl] using h) b hb
theorem chkL_inv {P : Program} {cf : CallF} {nt : Nat} {ops : Array Oper} {fl : List FS} {tm : Tm} {ds : List Dfr} {h : Hp} : ∀ {l : List It}, chkL P cf nt ops l fl tm ds h = true → ∀ it ∈ l, alt (pureOp P it.o.op) (evalP P cf ops it tm ds h fun v => stored nt it.o.dst tm v) (memF it.i fl) = true
  | [], _, it, hit => by cases hit
  | x :: l, e, it, hit => by
    obtain ⟨h1, h2⟩ := grd_inv (show grd _ (chkL P cf nt ops l fl tm ds h) = true from e)
    rcases List.mem_cons.1 hit with rfl | hit
    · exact h1
    · exact chkL_inv h2 it hit
theorem chkFs_inv {P : Program} {nt : Nat} {tm : Tm} {h : Hp} : ∀ {fl : List FS}, chkFs P nt fl tm h = true → ∀ f ∈ fl, chkF P nt f tm h = true
  | [], _, f, hf => by cases hf
  | x :: l, e, f, hf => by
    obtain ⟨h1, h2⟩ := grd_inv (show grd _ (chkFs P nt l tm h) = true from e)
    rcases List.mem_cons.1 hf with rfl | hf
    · exact h1
    · exact chkFs_inv h2 f hf
theorem memF_inv {i : Nat} : ∀ {fl : List FS}, memF i fl = true → ∃ f ∈ fl, f.i = i
  | [], h => by cases h
  | f :: fl, h => by
    have h : or (Nat.beq f.i i) (memF i fl) = true := h
    cases hb : Nat.beq f.i i with
    | true => exact ⟨f, by simp, Nat.eq_of_beq_eq_true hb⟩
    | false =>
      rw [hb] at h
      obtain ⟨f', h1, h2⟩ := memF_inv (show memF i fl = true from h)
      exact ⟨f', by simp [h1], h2⟩
section
variable {P : Program} {cf : CallF} {nt : Nat} {ops : Array Oper} {its : List It} {fm : Nat} {G : Fr} {m0 : M} {h0 : Hp}
/-- the region's rest, from each state that fits -/
def Goal (P : Program) (cf : CallF) (nt : Nat) (ops : Array Oper) (its : List It) (fm : Nat) (G : Fr) (m0 : M) (h0 : Hp) (K : Kr) (Q : Exit → Act → World → Prop) (fuel : Nat) : Prop :=
  ∀ rest dnb fl tm ds h listed a w m g, PInv P nt ops its fm G m0 h0 (maskOf rest) rest dnb fl tm ds h listed a w m g → rest.Pairwise (fun x y => y.bf.testBit x.i = true) →
    chkL P cf nt ops (chkOf P its fm (maskOf rest) dnb) fl tm ds h = true → chkFs P nt fl tm h = true → tailP P cf nt ops its fm rest dnb fl tm ds h K = true → unl listed.toList ≤ fuel →
    wpAny P .any ops Q fuel listed a w
theorem phase_ok (I : Its P ops its) {K : Kr} {Q : Exit → Act → World → Prop} {fuel : Nat} (H : Goal P cf nt ops its fm G m0 h0 K Q fuel) {rest : List It} {dnb : Nat} {fl : List FS} {tm : Tm} {ds : List Dfr} {h : Hp} {listed : Array Bool} {a : Act} {w : World} {m : M} {g : Nat → Option Obj}
    (v : PInv P nt ops its fm G m0 h0 (maskOf rest) rest dnb fl tm ds h listed a w m g) (hp : rest.Pairwise (fun x y => y.bf.testBit x.i = true)) (hu : unl listed.toList ≤ fuel) {fresh : List It}
    (hf : ∀ it ∈ fresh, it ∈ its ∧ nonch P fm it = true ∧ avail (maskOf rest) it = true ∧ listed.getD it.i false = false) (hfp : fresh.Pairwise (fun x y => x.i < y.i)) (hff : ∀ f ∈ fl, ∀ it ∈ fresh, f.i ≠ it.i)
    (e : drawT P cf nt ops its fm rest dnb fresh fl tm ds h K = true) : wpAny P .any ops Q fuel listed a w := by
  rw [drawT_eq] at e
  obtain ⟨fl', tm', h', g', v', e1⟩ := openL_ok I.at_ v hf hfp hff e
  obtain ⟨e2, e3⟩ := grd_inv e1
  obtain ⟨e4, e5⟩ := grd_inv e3
  exact H rest dnb fl' tm' ds h' listed a w m g' v' hp e2 e4 e5 hu
theorem avail_mono {W : It} {r : List It} {it : It} (h : avail (maskOf (W :: r)) it = true) : avail (maskOf r) it = true := by
  rw [avail_iff] at *
  intro j hj
  have := h j hj
  have e : maskOf (W :: r) = 2 ^ W.i ||| maskOf r := rfl
  rw [e, Nat.testBit_or, Bool.or_eq_false_iff] at this
  exact this.2
theorem any_ok (gd : Good P) (hcf : CallOk P cf) (I : Its P ops its) {K : Kr} {Q : Exit → Act → World → Prop} (hn : NOk G m0 h0 nt K (Q .normal)) : ∀ fuel, Goal P cf nt ops its fm G m0 h0 K Q fuel := by
  have fin : ∀ rest dnb fl tm ds h listed a w m g, PInv P nt ops its fm G m0 h0 (maskOf rest) rest dnb fl tm ds h listed a w m g → tailP P cf nt ops its fm rest dnb fl tm ds h K = true → (∀ j, j < ops.size → listed.getD j false = true) → Q .normal a w := by
    intro rest dnb fl tm ds h listed a w m g v e hall
    have hr : rest = [] := by
      cases rest with
      | nil => rfl
      | cons W r =>
        obtain ⟨q1, _, q3⟩ := v.restU W (by simp)
        have hlt : W.i < ops.size := (Array.getElem?_eq_some_iff.1 (I.at_ W q1)).1
        rw [hall _ hlt] at q3; cases q3
    subst hr
    obtain ⟨h', g', v', e1⟩ := closeL_ok v (fun f hf => hall _ (Array.getElem?_eq_some_iff.1 (v.flo f hf).1).1) (show closeL fl h (fun h => K tm ds h) = true from e)
    refine hn tm ds h' a w m v'.ext ⟨⟨v'.sz, v'.le, fun x u hx hu => ?_⟩, v'.dr, v'.hr.under v'.gg, v'.gr⟩ e1
    rcases v'.tmp x u hx hu with ⟨j, o, ho, hl, _⟩ | hok
    · rw [hall j (Array.getElem?_eq_some_iff.1 ho).1] at hl; cases hl
    · exact hok
  have none_ready : ∀ (listed : Array Bool), Closed ops listed → listed.size = ops.size → Region.ready .any ops listed = [] → ∀ j, j < ops.size → listed.getD j false = true := by
    intro listed hcl hsz hr j
    induction j using Nat.strongRecOn with
    | _ j ih =>
      intro hj
      cases hl : listed.getD j false with
      | true => rfl
      | false =>
        exfalso
        obtain ⟨o, ho⟩ : ∃ o, ops[j]? = some o := ⟨ops[j], by simp [hj]⟩
        obtain ⟨it, hit, hi, hio⟩ := I.cov j o ho
        have hlook : (_ && _) = true := I.look it hit
        rw [Bool.and_eq_true] at hlook
        have hedge := List.all_eq_true.1 hlook.2
        have hmem : j ∈ Region.ready .any ops listed := by
          rw [mem_ready]
          refine ⟨?_, o, ho, fun e he hb => ?_⟩
          · have hjl : j < listed.size := by omega
            simp only [Array.getD_eq_getD_getElem?, Array.getElem?_eq_getElem hjl, Option.getD_some] at hl ⊢
            exact hl
          · have h1 := hedge e (by rw [hio]; simpa using he)
            rw [hb] at h1
            have h2 : Nat.blt e.on it.i = true := by simpa using h1
            have h3 := Nat.of_blt h2
            exact ih e.on (by omega) (by omega)
        rw [hr] at hmem; cases hmem
  intro fuel
  induction fuel with
  | zero =>
    intro rest dnb fl tm ds h listed a w m g v hp e1 e2 e3 hu
    have hall : ∀ j, j < ops.size → listed.getD j false = true := fun j hj => by
      have hjl : j < listed.size := by rw [v.lsz]; exact hj
      have := unl_zero (l := listed.toList) (by omega) (listed[j]) (by simp)
      simp [hjl, this]
    refine ⟨?_, fin rest dnb fl tm ds h listed a w m g v e3 hall⟩
    rw [List.eq_nil_iff_forall_not_mem]
    intro j hj
    obtain ⟨h1, o, ho, _⟩ := mem_ready.1 hj
    have hlt := (Array.getElem?_eq_some_iff.1 ho).1
    have h2 := hall j hlt
    have hjl : j < listed.size := by rw [v.lsz]; exact hlt
    simp only [Array.getD_eq_getD_getElem?, Array.getElem?_eq_getElem hjl, Option.getD_some] at h1 h2
    rw [h1] at h2; cases h2
  | succ fuel ih =>
    intro rest dnb fl tm ds h listed a w m g v hp e1 e2 e3 hu
    refine ⟨fun hr => fin rest dnb fl tm ds h listed a w m g v e3 (none_ready listed v.cl v.lsz hr), fun i hi => ?_⟩
    obtain ⟨h1, o, ho, hed⟩ := mem_ready.1 hi
    have hlt := (Array.getElem?_eq_some_iff.1 ho).1
    have hil : i < listed.size := by rw [v.lsz]; exact hlt
    have hun : listed.getD i false = false := by
      simp only [Array.getD_eq_getD_getElem?, Array.getElem?_eq_getElem hil, Option.getD_some] at h1 ⊢
      exact h1
    obtain ⟨it, hit, rfl, rfl⟩ := I.cov i o ho
    have now : Now ops listed it := ⟨hun, hil, hed⟩
    have hb := I.mask it hit listed v.cl hed
    have hu' : unl (listed.setIfInBounds it.i true).toList ≤ fuel := by
      have h2 : listed.toList[it.i]? = some false := by
        rw [Array.getElem?_toList, Array.getElem?_eq_getElem hil]
        simp only [Array.getD_eq_getD_getElem?, Array.getElem?_eq_getElem hil, Option.getD_some] at hun
        rw [hun]
      have := unl_set h2
      rw [Array.toList_setIfInBounds]
      omega
    have hav : avail (maskOf rest) it = true := by
      rw [avail_iff]
      intro j hj
      cases hm : (maskOf rest).testBit j with
      | false => rfl
      | true =>
        obtain ⟨x, hx, rfl⟩ := maskOf_bit.1 hm
        obtain ⟨_, _, q3⟩ := v.restU x hx
        rw [hb _ hj] at q3; cases q3
    by_cases hnc : nonch P fm it = true
    · have hchk : it ∈ chkOf P its fm (maskOf rest) dnb := by
        refine List.mem_filter.2 ⟨hit, ?_⟩
        have h3 : tz dnb it.i = true := by
          rw [tz_eq]
          cases hd : dnb.testBit it.i with
          | false => rfl
          | true => have := v.dn _ hd; rw [hun] at this; cases this
        rw [hnc, hav, h3]; rfl
      rcases alt_inv (chkL_inv e1 it hchk) with ⟨hpure, h4⟩ | ⟨hpure, h4⟩
      · exact pure_step I gd.fields v hit hpure hav now hb h4 fun a' v' => ih rest dnb fl tm ds h _ a' w m g v' hp e1 e2 e3 hu'
      · obtain ⟨f, hf, hfi⟩ := memF_inv h4
        exact float_step I v hit hnc hav now hb hf hfi (chkFs_inv e2 f hf) fun a' w' m' g' v' => ih rest dnb fl tm ds h _ a' w' m' g' v' hp e1 e2 e3 hu'
    · have hnc : nonch P fm it = false := by simpa using hnc
      have hrest : it ∈ rest := by
        rcases v.restL it hit hnc with h2 | h2
        · exact h2
        · rw [hun] at h2; cases h2
      cases rest with
      | nil => cases hrest
      | cons W r =>
        obtain ⟨p1, p2⟩ := List.pairwise_cons.1 hp
        have hW : W = it := by
          rcases List.mem_cons.1 hrest with h2 | h2
          · exact h2.symm
          · have := hb _ (p1 it h2)
            obtain ⟨_, _, q3⟩ := v.restU W (by simp)
            rw [this] at q3; cases q3
        subst hW
        obtain ⟨fl2, h2, g2, v2, e4⟩ := closeW_ok (kept := []) hb (by simpa using v) (K := fun fl h => runW P cf nt ops W tm ds h fun tm ds h => drawT P cf nt ops its fm r (Nat.lor dnb W.bf) (freshOf P its fm (maskOf r) (maskOf (W :: r))) fl tm ds h K) (by simpa using (show closeW W.bf fl h _ = true from e3))
        obtain ⟨c1, c2⟩ := sees I.cov (I.look W hit) hb tm
        obtain ⟨hcl, mono⟩ := v2.listT I.at_ I.inj hit hil hed
        -- behind it
        have after : ∀ u u' ds' d' h' w' m', Ext m h2 m' h' → VRel m' u u' → DRel m' ds' d' → HRel (G.over g2) m' h' w' →
            putK nt W.o.dst tm u (fun tm => drawT P cf nt ops its fm r (Nat.lor dnb W.bf) (freshOf P its fm (maskOf r) (maskOf (W :: r))) fl2 tm ds' h' K) = true →
            wpAny P .any ops Q fuel (listed.setIfInBounds W.i true) (({ a with defers := d' } : Act).put W.o.dst u') w' := by
          intro u u' ds' d' h' w' m' x1 ru rd hr' e5
          have put : ∃ tm', (∀ d, W.o.dst = some d → d < nt ∧ T3.at tm' d = some u) ∧ (∀ x, x < 256 → W.o.dst ≠ some x → T3.at tm' x = T3.at tm x) ∧ drawT P cf nt ops its fm r (Nat.lor dnb W.bf) (freshOf P its fm (maskOf r) (maskOf (W :: r))) fl2 tm' ds' h' K = true := by
            cases hd : W.o.dst with
            | none => rw [hd] at e5; exact ⟨tm, by simp, by simp, e5⟩
            | some d =>
              rw [hd] at e5
              obtain ⟨q1, q2⟩ := grd_inv (show grd (Nat.blt d nt) (T3.put d (some u) tm _) = true from e5)
              rw [T3.put_eq] at q2
              have q1 := Nat.of_blt q1
              have hle := v2.le
              exact ⟨_, fun d' hd' => by cases hd'; exact ⟨q1, T3.at_set_same _ _ _⟩, fun x hx hne => T3.at_set_ne _ _ _ _ (by omega) hx (fun e => hne (by rw [e])), q2⟩
          obtain ⟨tm', t1, t2, e6⟩ := put
          have hgetW : ∀ j, (listed.setIfInBounds W.i true).getD j false = if j = W.i then true else listed.getD j false := getD_set hil
          have hne : ∀ x ∈ its, nonch P fm x = true → x.i ≠ W.i := fun x hx hxn e => by have := I.inj x hx W hit e; subst this; rw [hnc] at hxn; cases hxn
          have v3 : PInv P nt ops its fm G m0 h0 (maskOf r) r (Nat.lor dnb W.bf) fl2 tm' ds' h' (listed.setIfInBounds W.i true) (({ a with defers := d' } : Act).put W.o.dst u') w' m' g2 := by
            refine { ext := v2.ext.trans x1, hr := hr', gr := v2.gr.mono x1.le, dr := ?_, gg := v2.gg, sz := ?_, le := v2.le, tmp := fun x y hx hy => ?_, cl := hcl, lsz := by rw [← v2.lsz]; simp, restU := fun x hx => ?_, restL := fun x hx hxn => ?_, dn := fun j hj => ?_, flo := fun f hf => ?_, fld := v2.fld, lav := fun x hx hxn hl => ?_ }
            · cases W.o.dst <;> exact rd
            · cases W.o.dst <;> simp [Act.put, v2.sz]
            · by_cases hd : W.o.dst = some x
              · obtain ⟨q1, q2⟩ := t1 x hd
                rw [q2] at hy
                cases hy
                exact .inr ⟨u', by rw [hd]; simp [Act.put, v2.sz, q1], ru⟩
              · rw [t2 x hx hd] at hy
                rcases v2.tmp x y hx hy with ⟨j, o, ho', hl, hod⟩ | ⟨y', q1, q2⟩
                · have hj : j ≠ W.i := fun e => by subst e; rw [I.at_ W hit] at ho'; cases ho'; exact hd hod
                  exact .inl ⟨j, o, ho', by rw [hgetW, if_neg hj]; exact hl, hod⟩
                · refine .inr ⟨y', ?_, q2.mono x1.le⟩
                  cases hdd : W.o.dst with
                  | none => exact q1
                  | some d =>
                    have hne2 : d ≠ x := fun e => hd (by rw [hdd, e])
                    simp only [Act.put]
                    rw [Array.getElem?_setIfInBounds_ne hne2]; exact q1
            · obtain ⟨q1, q2, q3⟩ := v2.restU x (by simp [hx])
              have hxW : x.i ≠ W.i := fun e => by
                have h5 := p1 x hx
                have h6 := I.inj x q1 W hit e
                subst h6
                have := hb _ h5
                rw [hun] at this; cases this
              exact ⟨q1, q2, by rw [hgetW, if_neg hxW]; exact q3⟩
            · rcases v2.restL x hx hxn with q1 | q1
              · rcases List.mem_cons.1 q1 with rfl | q1
                · exact .inr (by rw [hgetW, if_pos rfl])
                · exact .inl q1
              · exact .inr (mono _ q1)
            · have hj : (dnb ||| W.bf).testBit j = true := hj
              rw [Nat.testBit_or, Bool.or_eq_true] at hj
              rcases hj with hj | hj
              · exact mono _ (v2.dn j hj)
              · exact mono _ (hb j hj)
            · obtain ⟨q1, q2, x, hx, hxi, hxn, hxp, hxa⟩ := v2.flo f hf
              refine ⟨q1, ?_, x, hx, hxi, hxn, hxp, avail_mono hxa⟩
              have : f.i ≠ W.i := fun e => hne x hx hxn (hxi.trans e)
              rw [hgetW, if_neg this]
              exact q2.ext x1
            · rw [hgetW, if_neg (hne x hx hxn)] at hl
              exact avail_mono (v2.lav x hx hxn hl)
          refine phase_ok I ih v3 p2 hu' (fun x hx => ?_) (List.Pairwise.filter _ I.asc) (fun f hf x hx e => ?_) e6
          · obtain ⟨q1, q2⟩ := List.mem_filter.1 hx
            have q2 : (nonch P fm x && (avail (maskOf r) x && !avail (maskOf (W :: r)) x)) = true := q2
            simp only [Bool.and_eq_true] at q2
            obtain ⟨q3, q4, q5⟩ := q2
            refine ⟨q1, q3, q4, ?_⟩
            rw [hgetW, if_neg (hne x q1 q3)]
            cases hl : listed.getD x.i false with
            | false => rfl
            | true => rw [v2.lav x q1 q3 hl] at q5; cases q5
          · obtain ⟨q1, q2⟩ := List.mem_filter.1 hx
            have q2 : (nonch P fm x && (avail (maskOf r) x && !avail (maskOf (W :: r)) x)) = true := q2
            simp only [Bool.and_eq_true] at q2
            obtain ⟨_, _, y, hy, hyi, _, _, hya⟩ := v2.flo f hf
            have := I.inj y hy x q1 (hyi.trans e)
            subst this
            rw [hya] at q2
            exact absurd q2.2.2 (by simp)
        have run : operK cf W.o.op P tm ds h2 (fun v ds h => putK nt W.o.dst tm v fun tm => drawT P cf nt ops its fm r (Nat.lor dnb W.bf) (freshOf P its fm (maskOf r) (maskOf (W :: r))) fl2 tm ds h K) = true → W.o.wp P a w (wpAny P .any ops Q fuel (listed.setIfInBounds W.i true)) Q := by
          intro e5
          rw [operK_congr (cf := cf) (P := P) c1] at e5
          exact oper_wp gd hcf v2.srel e5 fun u u' ds' d' h' w' m' x1 ru rd hr' e6 => after u u' ds' d' h' w' m' x1 ru rd hr' e6
        have skip : putK nt W.o.dst tm nilT (fun tm => drawT P cf nt ops its fm r (Nat.lor dnb W.bf) (freshOf P its fm (maskOf r) (maskOf (W :: r))) fl2 tm ds h2 K) = true → wpAny P .any ops Q fuel (listed.setIfInBounds W.i true) (a.put W.o.dst undef) w := by
          intro e5
          exact after nilT undef ds a.defers h2 w m (Ext.refl m h2) (VRel.tup [] [] .nil) v2.dr v2.hr e5
        unfold wpOp
        rw [I.at_ W hit]
        unfold runW at e4
        cases hg : W.o.guard with
        | none =>
          rw [hg] at e4
          have hw : Region.wanted W.o (yielded ops a.tmps) = true := by simp [Region.wanted, hg]
          simp only [hw, if_true]
          exact .inl (run e4)
        | some gg =>
          rw [hg] at e4
          have e4 : guardK ops.toList tm _ _ gg = true := e4
          rw [c2 _ _ gg hg] at e4
          rcases guardK_inv v2.trel e4 with ⟨q1, q2⟩ | ⟨q1, q2⟩
          · have hw : Region.wanted W.o (yielded ops a.tmps) = true := by simp only [Region.wanted, hg]; exact q1
            simp only [hw, if_true]
            exact .inl (run q2)
          · have hw : Region.wanted W.o (yielded ops a.tmps) = false := by simp only [Region.wanted, hg]; exact q1
            simp only [hw, Bool.false_eq_true, if_false]
            exact skip q2
end
theorem drawK_ok {P : Program} (gd : Good P) {cf : CallF} (hcf : CallOk P cf) {nt : Nat} {ops : Array Oper} {G : Fr} {m : M} {tm : Tm} {ds : List Dfr} {h : Hp} {a : Act} {w : World} (s : SRel G m nt tm ds h a w) {K : Kr}
    (e : drawK P cf nt ops tm ds h K = true) {Q : Exit → Act → World → Prop} (hn : NOk G m h nt K (Q .normal)) : wpAny P .any ops Q ops.size (Array.replicate ops.size false) a w := by
  obtain ⟨e1, e2⟩ := grd_inv e
  have e1 : (pairOk (chainOf P ops) && List.all (itemsOf ops) (lookOk ops (itemsOf ops))) = true := e1
  rw [Bool.and_eq_true] at e1
  obtain ⟨q1, q2, q3⟩ := items_of ops
  have I : Its P ops (itemsOf ops) := ⟨fun it h => (q1 it h).1, fun it h => (q1 it h).2, fun x hx y hy e => pairwise_inj q2 hx hy e, q3, fun it h => List.all_eq_true.1 e1.2 it h, q2⟩
  have hgf : ∀ j, (Array.replicate ops.size false).getD j false = false := fun j => by
    by_cases hj : j < ops.size
    · simp [hj]
    · simp [hj]
  have v : PInv P nt ops (itemsOf ops) (fmOf P ops) G m h (maskOf (chainOf P ops)) (chainOf P ops) 0 [] tm ds h (Array.replicate ops.size false) a w m noG := by
    refine { ext := Ext.refl m h, hr := by rw [over_noG]; exact s.h, gr := s.g, dr := s.d, gg := fun B o hB => (by simp [noG] at hB), sz := s.t.size, le := s.t.le, tmp := fun x u hx hu => .inr (s.t.at_ x u hx hu), cl := fun i o ho hl => (by rw [hgf] at hl; cases hl), lsz := by simp, restU := fun it hit => ?_, restL := fun it hit hnc => .inl ?_, dn := fun j hj => (by simp at hj), flo := fun f hf => (by cases hf), fld := .nil, lav := fun it hit _ hl => (by rw [hgf] at hl; cases hl) }
    · obtain ⟨h1, h2⟩ := List.mem_filter.1 hit
      exact ⟨h1, by simpa using h2, hgf _⟩
    · exact List.mem_filter.2 ⟨hit, by rw [hnc]; rfl⟩
  refine phase_ok I (any_ok gd hcf I hn ops.size) v (pairOk_eq e1.1) ?_ (fun it hit => ?_) (List.Pairwise.filter _ I.asc) (fun f hf => by cases hf) e2
  · simp only [Array.toList_replicate]
    unfold unl
    rw [List.count_replicate]
    simp
  · obtain ⟨h1, h2⟩ := List.mem_filter.1 hit
    have h2 : (nonch P (fmOf P ops) it && avail (maskOf (chainOf P ops)) it) = true := h2
    rw [Bool.and_eq_true] at h2
    exact ⟨h1, h2.1, h2.2, hgf _⟩
end
end Go.Ev
