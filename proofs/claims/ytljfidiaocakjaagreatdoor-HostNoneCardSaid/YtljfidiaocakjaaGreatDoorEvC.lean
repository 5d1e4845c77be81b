/-
  The evaluator: maps written, structs built, ranges, operations, regions in order.
-/
import Derived.Test.YtljfidiaocakjaaGreatDoorEvB
import Derived.Laws.Tables
import Derived.Laws.MakeOwn
import Derived.Great.BuildSlice
import Derived.Laws.IdiomRangeMap
import Derived.Laws.RangeString
import Derived.Tactics
set_option linter.unusedVariables false
set_option linter.unusedSimpArgs false
namespace Go.Ev
noncomputable section

def setE (k x : V) (es : List (V × V)) : Nat → (List (V × V) → Bool) → Bool := List.rec (motive := fun _ => Nat → (List (V × V) → Bool) → Bool) (fun _ _ => false)
  (fun e es ih n K => Nat.rec (K ((k, x) :: es)) (fun n _ => ih n fun l => K (e :: l)) n) es
theorem setE_inv {k x : V} : ∀ {es : List (V × V)} {n : Nat} {K : List (V × V) → Bool}, setE k x es n K = true → K (es.set n (k, x)) = true
  | [], _, _, h => by cases h
  | e :: es, 0, _, h => h
  | e :: es, n + 1, K, h => setE_inv (es := es) (n := n) (K := fun l => K (e :: l)) h
def delE (es : List (V × V)) : Nat → (List (V × V) → Bool) → Bool := List.rec (motive := fun _ => Nat → (List (V × V) → Bool) → Bool) (fun _ _ => false)
  (fun e es ih n K => Nat.rec (K es) (fun n _ => ih n fun l => K (e :: l)) n) es
theorem delE_inv : ∀ {es : List (V × V)} {n : Nat} {K : List (V × V) → Bool}, delE es n K = true → K (es.eraseIdx n) = true
  | [], _, _, h => by cases h
  | e :: es, 0, _, h => h
  | e :: es, n + 1, K, h => delE_inv (es := es) (n := n) (K := fun l => K (e :: l)) h
def delN (es : List Nat) : Nat → (List Nat → Bool) → Bool := List.rec (motive := fun _ => Nat → (List Nat → Bool) → Bool) (fun _ _ => false)
  (fun e es ih n K => Nat.rec (K es) (fun n _ => ih n fun l => K (e :: l)) n) es
theorem delN_inv : ∀ {es : List Nat} {n : Nat} {K : List Nat → Bool}, delN es n K = true → K (es.eraseIdx n) = true
  | [], _, _, h => by cases h
  | e :: es, 0, _, h => h
  | e :: es, n + 1, K, h => delN_inv (es := es) (n := n) (K := fun l => K (e :: l)) h

theorem ERel.upd {m : M} {k x : V} {k' x' : Value} (rk : VRel m k k') (rx : VRel m x x') : ∀ {es : List (V × V)} {l : List MapEntry} (r : ERel m es l) (n : Nat),
    ERel m (es.set n (k, x)) (l.modify n fun e => { e with key := k', val := x' }) ∧ (l.modify n fun e => { e with key := k', val := x' }).map (·.born) = l.map (·.born)
  | _, _, .nil, n => by simp; exact .nil
  | _, _, .cons k1 v1 e es l hk hv t, 0 => by simp; exact .cons _ _ _ _ _ rk rx t
  | _, _, .cons k1 v1 e es l hk hv t, n + 1 => by
    obtain ⟨h1, h2⟩ := ERel.upd rk rx t n
    simp only [List.set_cons_succ, List.modify_succ_cons, List.map_cons, h2]
    exact ⟨.cons _ _ _ _ _ hk hv h1, trivial⟩
theorem ERel.append {m : M} {es2 : List (V × V)} {l2 : List MapEntry} (r2 : ERel m es2 l2) : ∀ {es : List (V × V)} {l : List MapEntry}, ERel m es l → ERel m (es ++ es2) (l ++ l2)
  | _, _, .nil => r2
  | _, _, .cons k v e es l hk hv t => .cons k v e _ _ hk hv (ERel.append r2 t)
theorem ERel.erase {m : M} : ∀ {es : List (V × V)} {l : List MapEntry} (r : ERel m es l) (n : Nat), ERel m (es.eraseIdx n) (l.eraseIdx n)
  | _, _, .nil, n => by simp; exact .nil
  | _, _, .cons k v e es l hk hv t, 0 => by simpa using t
  | _, _, .cons k v e es l hk hv t, n + 1 => by simpa using ERel.cons k v e _ _ hk hv (ERel.erase t n)
theorem same_bits {u : TypeDesc} {a b : Value} (h : Instr.sameNow u a b = some true) : Instr.sameBits 10000 b a = true := by
  unfold Instr.sameNow at h
  split at h
  · rename_i ik k x k' y
    split at h
    · rename_i hk
      subst hk
      simp at h
      subst h
      simp [Instr.sameBits]
    · cases h
  · rename_i a b
    have hb : ∀ a b : ByteArray, (a == b) = (a.data == b.data) := fun a b => by cases a; cases b; rfl
    have h1 : (a == b) = true := by simpa using h
    rw [hb] at h1
    have h2 : a.data = b.data := by simpa using h1
    simp [Instr.sameBits, hb, h2]
  · simp at h; subst h; simp [Instr.sameBits]
  · cases h
theorem map_erase {α β : Type} (f : α → β) : ∀ (l : List α) (n : Nat), (l.eraseIdx n).map f = (l.map f).eraseIdx n
  | [], _ => rfl
  | _ :: _, 0 => rfl
  | a :: l, n + 1 => by simp [map_erase f l n]
theorem findNow_same {u : TypeDesc} {k : Value} : ∀ {l : List MapEntry} {i n : Nat} {v : Value}, Instr.findNow u k l i = some (some (n, v)) → ∃ j e, n = i + j ∧ l[j]? = some e ∧ Instr.sameNow u k e.key = some true
  | [], _, _, _, h => by simp [Instr.findNow] at h
  | e :: l, i, n, v, h => by
    unfold Instr.findNow at h
    split at h
    · rename_i hs
      simp at h
      exact ⟨0, e, by omega, rfl, hs⟩
    · obtain ⟨j, e', hj, he, hs⟩ := findNow_same h
      exact ⟨j + 1, e', by omega, by simpa using he, hs⟩
    · cases h
theorem HRel.still {G : Fr} {m : M} {h : Hp} {w w' : World} (r : HRel G m h w) (e : ∀ k : Nat, w'.heap[k]? = w.heap[k]?) (hs : w'.heap.size = w.heap.size) (ho : w'.os = w.os) (ht : w'.tape = w.tape) (hp : w'.output = w.output) : HRel G m h w' :=
  ⟨fun b x hb => by obtain ⟨B, bs, s, o, h1, h2, h3⟩ := r.blk b x hb; exact ⟨B, bs, s, o, h1, by rw [e]; exact h2, h3⟩, r.inj, r.nx, fun b B bs s hb => hs ▸ r.lt b B bs s hb,
    fun B o hB => by rw [e]; exact r.gh B o hB, r.gr, ho.trans r.os, ht.trans r.tape, hp.trans r.output, hs ▸ r.size⟩
theorem HRel.but_same {G : Fr} {m : M} {h : Hp} {w w' : World} (r : HRel G m h w) {B : Nat} {o : Obj} (hw : w.heap[B]? = some o) (k : But w w' B o) : HRel G m h w' :=
  r.still (fun j => by by_cases hj : j = B; · subst hj; rw [k.at_, hw]
                       · exact k.others j hj) k.size k.os k.tape k.output

def updM (P : Program) (k x : V) (h : Hp) (K : Hp → Bool) (b : BId) : Bool := onMap h b fun clock es st =>
  findE k es 0 (fun i _ => setE k x es i fun es => setB h b (some (.map clock es st)) K) (catK [(k, x)] es fun es => catK [clock] st fun st => fN (Nat.add clock 1) fun clock => setB h b (some (.map clock es st)) K)
def mapUpdateK (P : Program) (t : TypeId) (m k x : V) (h : Hp) (K : Hp → Bool) : Bool := optK (mapT P t) fun q => Prod.rec (motive := fun _ => Bool) (fun kt _ => keyOk kt k (onMp m (updM P k x h K))) q
theorem mapUpdateK_run {P : Program} {G : Fr} {m : M} {h : Hp} {w : World} (r : HRel G m h w) {x k v : V} {x' k' v' : Value} (rx : VRel m x x') (rk : VRel m k k') (rv : VRel m v v') {t : TypeId} {K : Hp → Bool}
    (e : mapUpdateK P t x k v h K = true) : ∃ h' w', (Instr.mapUpdate t x' k' v').run P w = .ok () w' ∧ Ext m h m h' ∧ HRel G m h' w' ∧ K h' = true := by
  obtain ⟨⟨kt, el⟩, hq, h1⟩ := optK_inv e
  obtain ⟨kty, u, hu, hku, hk⟩ := mapT_eq hq
  have h2 := keyOk_true h1
  obtain ⟨b, rfl, h3⟩ := onMp_inv h2
  obtain ⟨clock, es, st, hb, h4⟩ := onMap_inv (show onMap h b _ = true from h3)
  cases rx with
  | mp _ R hr =>
    obtain ⟨l, base, sz, hm, hw, he, hbn⟩ := r.mapOf hb hr
    rcases findE_inv hk rk h1 he h4 with ⟨h5, h6⟩ | ⟨j, v1, v2, h5, _, ⟨e1, he1, _⟩, _, h6⟩
    · have h7 := catK_inv (catK_inv h6)
      rw [fN_eq] at h7
      obtain ⟨w', hst, hbut⟩ := run_setMap (P := P) (o' := .map (l.push { key := k', val := v', born := clock }) (clock + 1)) hw
      have r' := r.upd (x' := .map (clock + 1) (es ++ [(k, v)]) (st ++ [clock])) hb rfl hm hbut ⟨_, rfl, by simpa using ERel.append (.cons k v { key := k', val := v', born := clock } [] [] rk rv .nil) he, by simp [hbn]⟩
      exact ⟨_, w', by simp [Instr.mapUpdate, run_underlying hu, run_getMap hw, checkKey_run hku hk, findKey_run hku h5, hst], Ext.upd _ hb, r', setB_inv h7⟩
    · have h7 := setE_inv h6
      obtain ⟨w', hst, hbut⟩ := run_setMap (P := P) (o' := .map (l.modify (0 + j) fun e => { e with key := k', val := v' }) clock) hw
      obtain ⟨q1, q2⟩ := he.upd rk rv (0 + j)
      have r' := r.upd (x' := .map clock (es.set (0 + j) (k, v)) st) hb rfl hm hbut ⟨_, rfl, by simpa using q1, by rw [← hbn, ← q2]; simp⟩
      obtain ⟨j', e', hj', he', hs'⟩ := findNow_same h5
      have hj2 : j' = 0 + j := by omega
      subst hj2
      have hl : l[0 + j]? = some e' := by simpa using he'
      have hkey : ∀ w, (Instr.keyThatStays (((l[0 + j]?).map (·.key)).getD k') k').run P w = .ok k' w := by
        intro w
        rw [hl]
        simp [Instr.keyThatStays, same_bits hs']
      refine ⟨_, w', ?_, Ext.upd _ hb, r', setB_inv h7⟩
      simp only [Instr.mapUpdate, Sem.run_bind, run_underlying hu, run_getMap hw, checkKey_run hku hk, findKey_run hku h5, Result.andThen_ok, hkey]
      exact hst

def delM (P : Program) (k : V) (h : Hp) (K : V → Hp → Bool) (b : BId) : Bool := onMap h b fun clock es st =>
  findE k es 0 (fun i _ => delE es i fun es => delN st i fun st => setB h b (some (.map clock es st)) fun h => K nilT h) (K nilT h)
def deleteK (P : Program) (t : TypeId) (m k : V) (h : Hp) (K : V → Hp → Bool) : Bool := optK (mapT P t) fun q => Prod.rec (motive := fun _ => Bool) (fun kt _ => keyOk kt k (onMpN m (delM P k h K) (K nilT h))) q
theorem deleteK_many {P : Program} {G : Fr} {m : M} {h : Hp} {w : World} (r : HRel G m h w) {x k : V} {x' k' : Value} (rx : VRel m x x') (rk : VRel m k k') {ts : Array TypeId} {t : TypeId} (ht : ts[0]? = some t) (ty : TypeId) {K : V → Hp → Bool}
    (e : deleteK P t x k h K = true) : Many P G m h w (Builtin.delete_ ts ty #[x', k']) K := by
  have rn : ∀ m, VRel m nilT (.tuple #[]) := fun m => VRel.tup [] [] .nil
  obtain ⟨⟨kt, el⟩, hq, h1⟩ := optK_inv e
  obtain ⟨kty, u, hu, hku, hk⟩ := mapT_eq hq
  have h2 := keyOk_true h1
  rcases onMpN_inv h2 with ⟨b, rfl, h3⟩ | ⟨rfl, h3⟩
  · obtain ⟨clock, es, st, hb, h4⟩ := onMap_inv (show onMap h b _ = true from h3)
    cases rx with
    | mp _ R hr =>
      obtain ⟨l, base, sz, hm, hw, he, hbn⟩ := r.mapOf hb hr
      rcases findE_inv hk rk h1 he h4 with ⟨h5, h6⟩ | ⟨j, v1, v2, h5, _, _, _, h6⟩
      · obtain ⟨w', hst, hbut⟩ := run_setMap (P := P) (o' := .map l clock) hw
        have r' := r.but_same hw hbut
        exact ⟨_, _, h, w', m, by simp [Builtin.delete_, ht, run_underlying hu, run_getMap hw, checkKey_run hku hk, findKey_run hku h5, hst], Ext.refl m h, rn m, r', h6⟩
      · rw [Nat.zero_add] at h5 h6
        have h7 := delN_inv (delE_inv h6)
        obtain ⟨w', hst, hbut⟩ := run_setMap (P := P) (o' := .map (l.eraseIdxIfInBounds j) clock) hw
        have r' := r.upd (x' := .map clock (es.eraseIdx j) (st.eraseIdx j)) hb rfl hm hbut ⟨_, rfl, by simpa using he.erase j, by rw [← hbn]; simp [map_erase]⟩
        exact ⟨_, _, _, w', m, by simp [Builtin.delete_, ht, run_underlying hu, run_getMap hw, checkKey_run hku hk, findKey_run hku h5, hst], Ext.upd _ hb, rn m, r', setB_inv h7⟩
  · cases rx
    exact ⟨_, _, h, w, m, by simp [Builtin.delete_, ht, run_underlying hu, checkKey_run hku hk], Ext.refl m h, rn m, r, h3⟩
end
end Go.Ev
namespace Go.Ev
noncomputable section

inductive PsRel (m : M) : List (Nat × V) → List (Nat × Value) → Prop
  | nil : PsRel m [] []
  | cons (i v v' l l') (h : VRel m v v') (t : PsRel m l l') : PsRel m ((i, v) :: l) ((i, v') :: l')
theorem foldl_set (off : Nat) : ∀ (vs : List Value) (j : Nat) (cs : Array Value), off + j + vs.length ≤ cs.size →
    ((vs.zipIdx j).foldl (fun (cs : Array Value) p => cs.setIfInBounds (off + p.2) p.1) cs).toList = cs.toList.take (off + j) ++ (vs ++ cs.toList.drop (off + j + vs.length))
  | [], j, cs, h => by simp
  | v :: vs, j, cs, h => by
    have hlt : off + j < cs.size := by simp at h; omega
    rw [List.zipIdx_cons, List.foldl_cons, foldl_set off vs (j + 1) _ (by simp at h ⊢; omega)]
    have e1 : off + (j + 1) = off + j + 1 := by omega
    simp only [e1, Array.toList_setIfInBounds, List.length_cons]
    have e2 : off + j + 1 + vs.length = off + j + (vs.length + 1) := by omega
    rw [e2]
    apply List.ext_getElem?
    intro i
    simp only [List.getElem?_append, List.length_take, List.length_set, List.getElem?_take, List.getElem?_drop, List.getElem?_set, Array.length_toList, List.length_cons]
    have m1 : min (off + j + 1) cs.size = off + j + 1 := by omega
    have m2 : min (off + j) cs.size = off + j := by omega
    rw [m1, m2]
    by_cases c1 : i < off + j
    · have c2 : i < off + j + 1 := by omega
      have c3 : ¬ off + j = i := by omega
      simp [c1, c2, c3]
    · by_cases c4 : i = off + j
      · subst c4
        simp [hlt]
      · have c2 : ¬ i < off + j + 1 := by omega
        have e3 : i - (off + j) = (i - (off + j + 1)) + 1 := by omega
        have c5 : (i - (off + j) < vs.length + 1) ↔ (i - (off + j + 1) < vs.length) := by omega
        simp only [c1, c2, if_false]
        by_cases c6 : i - (off + j + 1) < vs.length
        · have c7 : i - (off + j) < vs.length + 1 := c5.2 c6
          simp only [c6, c7, if_true]
          rw [e3]; simp
        · have c7 : ¬ i - (off + j) < vs.length + 1 := fun e => c6 (c5.1 e)
          simp only [c6, c7, if_false]
          have e4 : i - (off + j + 1) - vs.length = i - (off + j) - (vs.length + 1) := by omega
          rw [e4]
          have c8 : ¬ off + j = off + j + (vs.length + 1) + (i - (off + j) - (vs.length + 1)) := by omega
          simp [c8]
def fillStep (v : V) (cs : List V) (ih : List V → (List V → Bool) → Bool) (K : List V → Bool) (off size : Nat) : Bool := cellsC v fun l => lnK l 0 fun n => grd (Nat.beq n size) (putsK l cs off fun cs => ih cs K)
def fillK (place : Nat → Option (Nat × Nat)) (ps : List (Nat × V)) : List V → (List V → Bool) → Bool := List.rec (motive := fun _ => List V → (List V → Bool) → Bool) (fun cs K => K cs)
  (fun p _ ih cs K => Prod.rec (motive := fun _ => Bool) (fun i v => optK (place i) fun q => Prod.rec (motive := fun _ => Bool) (fillStep v cs ih K) q) p) ps
theorem fillK_inv {m : M} {place : Nat → Option (Nat × Nat)} : ∀ {ps : List (Nat × V)} {ps' : List (Nat × Value)} (r : PsRel m ps ps') {zs : List V} {zs' : List Value} (rz : LRel m zs zs') (hf : Flat zs') {K : List V → Bool},
    fillK place ps zs K = true → ∃ cs cs', Instr.fill place zs'.toArray ps' = some (List.toArray cs') ∧ LRel m cs cs' ∧ Flat cs' ∧ cs.length = zs.length ∧ K cs = true
  | _, _, .nil, zs, zs', rz, hf, K, h => ⟨zs, zs', rfl, rz, hf, rfl, h⟩
  | _, _, .cons i v v' l l' rv t, zs, zs', rz, hf, K, h => by
    obtain ⟨⟨off, size⟩, hp, h1⟩ := optK_inv (show optK (place i) _ = true from h)
    obtain ⟨hn, h2⟩ := cellsC_inv (show cellsC v _ = true from h1)
    obtain ⟨h3, h4⟩ := grd_inv (lnK_inv h2)
    obtain ⟨h5, h6⟩ := putsK_inv h4
    have h3 : 0 + (cellsV v).length = size := Nat.eq_of_beq_eq_true h3
    have rc := rv.cells
    have fc := rv.flat hn
    have hl : (cellsV v).length = v'.cells.size := by rw [rc.length]; simp
    have hzl : zs.length = zs'.length := rz.length
    have rz2 : LRel m (zs.take off ++ (cellsV v ++ zs.drop (off + (cellsV v).length))) (zs'.take off ++ (v'.cells.toList ++ zs'.drop (off + v'.cells.toList.length))) := by
      have e : (cellsV v).length = v'.cells.toList.length := by rw [rc.length]
      rw [e]
      exact LRel.append (LRel.append (rz.drop _) rc) (rz.take _)
    have hf2 : Flat (zs'.take off ++ (v'.cells.toList ++ zs'.drop (off + v'.cells.toList.length))) := by
      intro x hx
      simp only [List.mem_append] at hx
      rcases hx with hx | hx | hx
      · exact hf x (List.mem_of_mem_take hx)
      · exact fc x hx
      · exact hf x (List.mem_of_mem_drop hx)
    obtain ⟨cs, cs', hfi, r', f', hl', hK⟩ := fillK_inv t rz2 hf2 h6
    refine ⟨cs, cs', ?_, r', f', ?_, hK⟩
    · have hc : (decide (v'.cells.size ≠ size) || decide (off + v'.cells.size > zs'.toArray.size)) = false := by simp; omega
      have hset : v'.cells.zipIdx.foldl (fun (cs : Array Value) (x : Value × Nat) => cs.setIfInBounds (off + x.2) x.1) zs'.toArray = (zs'.take off ++ (v'.cells.toList ++ zs'.drop (off + v'.cells.toList.length))).toArray := by
        apply Array.toList_inj.1
        have := foldl_set off v'.cells.toList 0 zs'.toArray (by simp; omega)
        have e0 : v'.cells.zipIdx.foldl (fun (cs : Array Value) (x : Value × Nat) => cs.setIfInBounds (off + x.2) x.1) zs'.toArray = v'.cells.toList.zipIdx.foldl (fun (cs : Array Value) (x : Value × Nat) => cs.setIfInBounds (off + x.2) x.1) zs'.toArray := by rw [← Array.foldl_toList, Array.toList_zipIdx]
        rw [e0]
        simpa using this
      simp only [Instr.fill, hp, hc, Bool.false_eq_true, if_false]
      rw [← hfi, ← hset]
    · rw [hl']; simp; omega

-- structs and arrays
def structPlace (P : Program) (t : TypeId) (i : Nat) : Option (Nat × Nat) := match fieldT P t i with
  | some f => (szT P f.type).map fun n => (f.offset, n)
  | none => none
def arrPlace (n i : Nat) : Option (Nat × Nat) := some (Nat.mul i n, n)
/-- is it a struct, or an array of elements of so many cells? -/
def buildT (P : Program) (t : TypeId) : Option (Option Nat) := match P.underlying t with
  | some (.struct _) => some none
  | some (.array _ e) => (szT P e).map some
  | _ => none
/-- the types of all fields are known -/
def Fields (P : Program) : Prop := ∀ (t : Nat) fs, t < 700 → P.underlying t = some (.struct fs) → ∃ places, fs.toList.mapM (fun f => (P.info? f.type).map fun i => (f.offset, i.size)) = some places
def buildK (P : Program) (t : TypeId) (ps : List (Nat × V)) (K : V → Bool) : Bool := grd (Nat.blt t 700) (optK (zeroT P t) fun z => onAgg z fun zs => optK (buildT P t) fun q => Option.rec (motive := fun _ => Bool) (fillK (structPlace P t) ps zs fun cs => K (.agg cs)) (fun n => fillK (arrPlace n) ps zs fun cs => K (.agg cs)) q)
theorem zeroT_info {P : Program} {t : TypeId} {v : V} (h : zeroT P t = some v) : ∃ i z, P.info? t = some i ∧ i.zero = some z ∧ ∀ m, VRel m v z := by
  unfold zeroT at h
  split at h
  · rename_i i hi
    split at h
    · rename_i z hz
      exact ⟨i, z, hi, hz, fun m => cvt_rel m h⟩
    · cases h
  · cases h
theorem mapM_places {P : Program} : ∀ {fs : List Field} {places : List (Nat × Nat)}, fs.mapM (fun f => (P.info? f.type).map fun i => (f.offset, i.size)) = some places →
    ∀ i : Nat, places[i]? = (fs[i]?).bind fun (f : Field) => (P.info? f.type).map fun i => (f.offset, i.size)
  | [], places, h, i => by simp at h; subst h; simp
  | f :: fs, places, h, i => by
    rw [List.mapM_cons] at h
    cases hi : P.info? f.type with
    | none => simp [hi] at h
    | some x =>
      cases hr : fs.mapM (fun f => (P.info? f.type).map fun i => (f.offset, i.size)) with
      | none => simp [hi, hr] at h
      | some rest =>
        simp [hi, hr] at h
        subst h
        cases i with
        | zero => simp [hi]
        | succ i => simpa using mapM_places hr i
theorem buildK_one {P : Program} (hP : Fields P) {m : M} {w : World} {t : TypeId} {ps : List (Nat × V)} {ps' : Array (Nat × Value)} (r : PsRel m ps ps'.toList) {K : V → Bool} (e : buildK P t ps K = true) : One P m w (Instr.build t ps') K := by
  obtain ⟨hlt, e⟩ := grd_inv e
  obtain ⟨z, hz, h1⟩ := optK_inv e
  obtain ⟨zs, rfl, h2⟩ := onAgg_inv h1
  obtain ⟨q, hq, h3⟩ := optK_inv h2
  obtain ⟨it, z', hit, hiz, rz⟩ := zeroT_info hz
  have rzm := rz m
  cases rzm with
  | agg _ zs' rl hfl =>
    unfold buildT at hq
    split at hq
    · rename_i fs hu
      cases hq
      obtain ⟨cs, cs', hfi, rc, fc, _, hK⟩ := fillK_inv r rl hfl (show fillK (structPlace P t) ps zs _ = true from h3)
      obtain ⟨places, hpl⟩ := hP t fs (Nat.of_blt hlt) hu
      have hsame : (places.toArray[·]?) = structPlace P t := by
        funext i
        have := mapM_places hpl i
        show places.toArray[i]? = _
        rw [List.getElem?_toArray, this]
        have e1 : fs.toList[i]? = fs[i]? := by simp
        rw [e1]
        unfold structPlace fieldT szT
        rw [hu]
        show _ = match fs[i]? with
          | some f => ((P.info? f.type).map (fun (i : TypeInfo) => i.size)).map fun n => (f.offset, n)
          | none => none
        cases hfi : fs[i]? with
        | none => simp
        | some f => cases hinf : P.info? f.type <;> simp [hinf]
      refine ⟨_, _, run_build w t ps' cs'.toArray ?_, .agg _ _ rc fc, hK⟩
      unfold Program.built
      simp only [hit, hu, hiz, hpl, hsame]
      exact hfi
    · rename_i n el hu
      cases hs : szT P el with
      | none => rw [hs] at hq; cases hq
      | some s =>
        rw [hs] at hq
        cases hq
        obtain ⟨cs, cs', hfi, rc, fc, _, hK⟩ := fillK_inv r rl hfl (show fillK (arrPlace s) ps zs _ = true from h3)
        refine ⟨_, _, run_build w t ps' cs'.toArray ?_, .agg _ _ rc fc, hK⟩
        unfold szT at hs
        cases hie : P.info? el with
        | none => rw [hie] at hs; cases hs
        | some ie =>
          rw [hie] at hs
          cases hs
          unfold Program.built
          simp only [hit, hu, hiz, hie]
          exact hfi
    · cases hq

-- slices
def rowT (P : Program) (t : TypeId) : Option (Nat × List V) := match P.underlying t with
  | some (.slice e) => match P.info? e with
    | some i => match i.zero with
      | some z => match cvt z with
        | some v => if z.cells.size = i.size ∧ i.bytes ≤ 100000 then (match v with | .tup _ => none | v => some (i.size, cellsV v)) else none
        | none => none
      | none => none
    | none => none
  | _ => none
theorem rowT_eq {P : Program} {t : TypeId} {n : Nat} {zs : List V} (h : rowT P t = some (n, zs)) : ∃ e i z, P.underlying t = some (.slice e) ∧ P.info? e = some i ∧ i.zero = some z ∧ z.cells.size = n ∧ i.size = n ∧ i.bytes ≤ 100000 ∧ ∀ m, LRel m zs z.cells.toList ∧ Flat z.cells.toList := by
  unfold rowT at h
  split at h
  · rename_i e hu
    split at h
    · rename_i i hi
      split at h
      · rename_i z hz
        split at h
        · rename_i v hv
          split at h
          · rename_i hc
            have hn : noTup v ∧ (i.size, cellsV v) = (n, zs) := by
              cases v <;> first | (cases h; done) | (cases h; exact ⟨trivial, rfl⟩)
            obtain ⟨hn, he⟩ := hn
            cases he
            exact ⟨e, i, z, hu, hi, hz, hc.1, rfl, hc.2, fun m => ⟨(cvt_rel m hv).cells, (cvt_rel m hv).flat hn⟩⟩
          · cases h
        · cases h
      · cases h
    · cases h
  · cases h
theorem madeCells_eq (z : Array Value) (n : Nat) : (madeCells z (n * z.size)).toList = (List.replicate n z.toList).flatten := zeroCells_eq z n
def mkS (b : BId) (len cap : Nat) : V := .sl b 0 len (.ex cap)
def bsAll (n : Nat) (zs : List V) (len : Nat) (ps : List (Nat × V)) (h : Hp) (K : V → Hp → Bool) : Bool :=
  replK zs len fun zs => fillK (arrPlace n) ps zs fun cs => newK h (.cells false cs) fun b h => K (mkS b len len) h
def bsNone (len : Nat) (ps : List (Nat × V)) (h : Hp) (K : V → Hp → Bool) : Bool := List.rec (motive := fun _ => Bool) (newK h (.cells false []) fun b h => K (mkS b len len) h) (fun _ _ _ => false) ps
def buildSliceK (P : Program) (t : TypeId) (len : Nat) (ps : List (Nat × V)) (h : Hp) (K : V → Hp → Bool) : Bool := optK (rowT P t) fun q => Prod.rec (motive := fun _ => Bool) (fun n zs => fN (Nat.mul len n) fun k => grd (Nat.ble k 100000) (
  alt (Nat.beq k 0) (bsNone len ps h K) (bsAll n zs len ps h K))) q
theorem buildSliceK_many {P : Program} {G : Fr} {m : M} {h : Hp} {w : World} (r : HRel G m h w) {t : TypeId} {len : Nat} {ps : List (Nat × V)} {ps' : Array (Nat × Value)} (rp : PsRel m ps ps'.toList) {K : V → Hp → Bool}
    (e : buildSliceK P t len ps h K = true) : Many P G m h w (Instr.buildSlice t len ps') K := by
  obtain ⟨⟨n, zs⟩, hq, h1⟩ := optK_inv e
  obtain ⟨el, i, z, hu, hi, hz, hzs, his, hby, hrel⟩ := rowT_eq hq
  have h1 : fN (Nat.mul len n) (fun k => grd (Nat.ble k 100000) (alt (Nat.beq k 0) (bsNone len ps h K) (bsAll n zs len ps h K))) = true := h1
  rw [fN_eq] at h1
  obtain ⟨h2, h3⟩ := grd_inv h1
  have h2 : len * n ≤ 100000 := Nat.le_of_ble_eq_true h2
  obtain ⟨rz, fz⟩ := hrel m
  have big : ¬ len * i.size > 2 ^ 24 := by rw [his]; omega
  rcases alt_inv h3 with ⟨h4, h5⟩ | ⟨h4, h5⟩
  · have h4 : len * n = 0 := Nat.eq_of_beq_eq_true h4
    cases rp' : ps with
    | cons p ps2 => rw [rp'] at h5; cases h5
    | nil =>
      rw [rp'] at h5 rp
      have hps : ps'.toList = [] := by
        generalize hl : ps'.toList = l at rp
        cases rp; rfl
      obtain ⟨m', h', x1, hm', r', hK⟩ := r.cells_new (l := []) .nil (by intro x hx; cases hx) el (show newK h (.cells false []) (fun b h => K (mkS b len len) h) = true from h5)
      refine ⟨mkS h.nx len len, .slice (some ⟨w.heap.size, 0, none⟩) len len, h', _, m', ?_, x1, .sl _ _ _ _ _ _ (by unfold PRel; rw [hm']) (Nat.le_refl _) rfl, r', hK⟩
      have big2 : ¬ len * n > 2 ^ 24 := by omega
      have hf0 : ∀ pl cs, Instr.fill pl cs ps'.toList = some cs := fun pl cs => by rw [hps]; rfl
      simp [Instr.buildSlice, run_underlying hu, sizeOf, typeInfo, hi, his, big2, h4, hf0, newRow, Array.range_zero']
  · have h4 : ¬ len * n = 0 := fun e0 => by
      have : Nat.mul len n = 0 := e0
      rw [this] at h4; cases h4
    have h6 := replK_inv (show replK zs len _ = true from h5)
    have rz2 := rz.replicate len
    have fz2 := fz.replicate len
    have hmade : (madeCells z.cells (len * n)).toList = (List.replicate len z.cells.toList).flatten := by rw [← hzs]; exact madeCells_eq _ _
    obtain ⟨cs, cs', hfi, rc, fc, hlen, h7⟩ := fillK_inv rp rz2 fz2 h6
    obtain ⟨m', h', x1, hm', r', hK⟩ := r.cells_new rc fc el h7
    refine ⟨mkS h.nx len len, .slice (some ⟨w.heap.size, 0, none⟩) len len, h', _, m', ?_, x1, .sl _ _ _ _ _ _ (by unfold PRel; rw [hm']) (Nat.le_refl _) rfl, r', hK⟩
    refine run_buildSlice w t el len ps' cs'.toArray i z hu hi hz big (by rw [his]; exact h4) ?_
    have e1 : (Array.range (len * i.size)).map (z.cells[· % z.cells.size]!) = (List.replicate len z.cells.toList).flatten.toArray := by
      apply Array.toList_inj.1
      have e2 : ((List.replicate len z.cells.toList).flatten.toArray).toList = (List.replicate len z.cells.toList).flatten := rfl
      rw [e2, ← hmade, his]
      rfl
    have e3 : (fun j => some (j * i.size, i.size)) = arrPlace n := by funext j; rw [his]; rfl
    rw [e1, e3]
    exact hfi

def mkAll (n : Nat) (zs : List V) (l c : Nat) (h : Hp) (K : V → Hp → Bool) : Bool := replK zs c fun cs => newK h (.cells false cs) fun b h => K (mkS b l c) h
def makeSliceK (P : Program) (t : TypeId) (l c : V) (h : Hp) (K : V → Hp → Bool) : Bool := optK (rowT P t) fun q => Prod.rec (motive := fun _ => Bool) (fun n zs => onNatV l fun l => onNatV c fun c => grd (Nat.ble l c) (grd (Nat.ble c 100000) (mkAll n zs l c h K))) q
theorem makeSliceK_many {P : Program} {G : Fr} {m : M} {h : Hp} {w : World} (r : HRel G m h w) {t : TypeId} {l c : V} {l' c' : Value} (rl : VRel m l l') (rc : VRel m c c') {K : V → Hp → Bool}
    (e : makeSliceK P t l c h K = true) : Many P G m h w (Instr.makeSlice t l' c') K := by
  obtain ⟨⟨n, zs⟩, hq, h1⟩ := optK_inv e
  obtain ⟨el, i, z, hu, hi, hz, hzs, his, hby, hrel⟩ := rowT_eq hq
  obtain ⟨kl, nl, rfl, h2⟩ := onNatV_inv (show onNatV l _ = true from h1)
  obtain ⟨kc, nc, rfl, h3⟩ := onNatV_inv h2
  obtain ⟨h4, h5⟩ := grd_inv h3
  obtain ⟨h6, h7⟩ := grd_inv h5
  have h4 := Nat.le_of_ble_eq_true h4
  have h6 := Nat.le_of_ble_eq_true h6
  obtain ⟨rz, fz⟩ := hrel m
  cases rl; cases rc
  have hb : (i.bytes : Int) * (Int.ofNat nc) ≤ 281474976710656 := by
    have : i.bytes * nc ≤ 100000 * 100000 := Nat.mul_le_mul hby h6
    show (i.bytes : Int) * (nc : Int) ≤ 281474976710656
    have h8 : ((i.bytes * nc : Nat) : Int) ≤ 281474976710656 := by omega
    rwa [Int.natCast_mul] at h8
  have hrun := run_make (P := P) w t el i z hu hi hz kl kc (Int.ofNat nl) (Int.ofNat nc) (Int.natCast_nonneg nl) (by show (nl : Int) ≤ (nc : Int); omega) hb (by show (nc : Int) ≤ _; omega)
  have hcells : madeCells z.cells ((Int.ofNat nc).toNat * i.size) = (List.replicate nc z.cells.toList).flatten.toArray := by
    apply Array.toList_inj.1
    have : (Int.ofNat nc).toNat = nc := rfl
    rw [this, his, ← hzs, madeCells_eq]
  rw [hcells] at hrun
  obtain ⟨m', h', x1, hm', r', hK⟩ := r.cells_new (rz.replicate nc) (fz.replicate nc) el (replK_inv (show replK zs nc _ = true from h7))
  exact ⟨mkS h.nx nl nc, _, h', _, m', hrun, x1, .sl _ _ _ _ _ _ (by unfold PRel; rw [hm']) h4 rfl, r', hK⟩
end
end Go.Ev
namespace Go.Ev
noncomputable section

theorem run_setObjs {P : Program} {w : World} {R : Nat} {o o' : Obj} (hw : w.heap[R]? = some o) (hn : ∀ c t f, o ≠ .cells c t f) : ∃ w', (setObj R o').run P w = .ok () w' ∧ But w w' R o' := by
  have hR : R < w.heap.size := by
    rcases Nat.lt_or_ge R w.heap.size with h | h
    · exact h
    · rw [Array.getElem?_eq_none h] at hw; cases hw
  refine ⟨{ w with heap := w.heap.setIfInBounds R o' }, ?_, But.setObj w R o' hR⟩
  simp only [setObj, Sem.run, hw]
/-- a new block that is no row of cells -/
theorem HRel.obj_new {G : Fr} {m : M} {h : Hp} {w : World} (r : HRel G m h w) {x : Blk} {o : Obj} {K : BId → Hp → Bool} (hx : ∀ n, BRel n 0 0 x o ∨ ¬ Le m n) (e : newK h x K = true) :
    ∃ m' h', Ext m h m' h' ∧ VRel m' (.ptr h.nx 0) (.pointer (some ⟨w.heap.size, 0, none⟩)) ∧ HRel G m' h' (w.alloc o) ∧ K h.nx h' = true := by
  obtain ⟨y, hy, hK⟩ := newK_inv e
  have hle : Le m (m.set h.nx (.live w.heap.size 0 0)) := M.le_set (r.nx _ (Nat.le_refl _))
  obtain ⟨h1, h2⟩ := r.new hy (base := 0) (sz := 0) (x := x) (o := o) ((hx _).resolve_right (fun e => e hle))
  exact ⟨_, _, Ext.new hy h2, .ptr _ _ _ (by unfold PRel; rw [M.set_same]), h1, hK⟩

/-- over a text, over a map -/
def rangeT (P : Program) (t : TypeId) : Option Bool := match P.underlying t with
  | some .string => some true
  | some (.map _ _) => some false
  | _ => none
def ptrK (K : V → Hp → Bool) (b : BId) (h : Hp) : Bool := K (.ptr b 0) h
def rangeM (h : Hp) (K : V → Hp → Bool) (b : BId) : Bool := onMap h b fun clock _ _ => newK h (.iter (some b) clock [] clock) (ptrK K)
def rangeK (P : Program) (t : TypeId) (x : V) (h : Hp) (K : V → Hp → Bool) : Bool := optK (rangeT P t) fun s => Bool.rec (motive := fun _ => Bool) (onMpN x (rangeM h K) (newK h (.iter none 0 [] 0) (ptrK K))) (onStr x fun l => newK h (.siter l 0) (ptrK K)) s
theorem rangeK_many {P : Program} {G : Fr} {m : M} {h : Hp} {w : World} (r : HRel G m h w) {x : V} {x' : Value} (rx : VRel m x x') {t : TypeId} {K : V → Hp → Bool} (e : rangeK P t x h K = true) : Many P G m h w (Instr.range t x') K := by
  obtain ⟨q, hq, h1⟩ := optK_inv e
  unfold rangeT at hq
  split at hq
  · rename_i hu
    cases hq
    obtain ⟨l, rfl, h2⟩ := onStr_inv (show onStr x _ = true from h1)
    cases rx with
    | str _ s hs =>
      obtain ⟨m', h', x1, rp, r', hK⟩ := r.obj_new (x := .siter l 0) (o := .stringIter s 0) (fun n => .inl ⟨rfl, s, rfl, hs⟩) h2
      exact ⟨_, _, h', _, m', run_range_string w t s hu, x1, rp, r', hK⟩
  · rename_i kt el hu
    cases hq
    rcases onMpN_inv (show onMpN x _ _ = true from h1) with ⟨b, rfl, h2⟩ | ⟨rfl, h2⟩
    · obtain ⟨clock, es, st, hb, h3⟩ := onMap_inv (show onMap h b _ = true from h2)
      cases rx with
      | mp _ R hr =>
        obtain ⟨l, base, sz, hm, hw, he, hst⟩ := r.mapOf hb hr
        obtain ⟨m', h', x1, rp, r', hK⟩ := r.obj_new (o := .mapIter (some R) clock #[] clock) (fun n => by
          by_cases hle : Le m n
          · exact .inl ⟨rfl, some R, rfl, R, rfl, hr.mono hle⟩
          · exact .inr hle) h3
        exact ⟨_, _, h', _, m', run_range_map w t kt el R l clock hu hw, x1, rp, r', hK⟩
    · cases rx
      obtain ⟨m', h', x1, rp, r', hK⟩ := r.obj_new (x := .iter none 0 [] 0) (o := .mapIter none 0 #[] 0) (fun n => .inl ⟨rfl, none, rfl, rfl⟩) h2
      exact ⟨_, _, h', _, m', run_range_nilMap w t kt el hu, x1, rp, r', hK⟩
  · cases hq

-- the next one
def memN (s : Nat) (l : List Nat) : Bool := List.rec (motive := fun _ => Bool) false (fun a _ ih => or (Nat.beq a s) ih) l
theorem memN_eq (s : Nat) : ∀ l : List Nat, memN s l = l.contains s
  | [] => rfl
  | a :: l => by
    show or (Nat.beq a s) (memN s l) = _
    rw [memN_eq s l, List.contains_cons]
    have : Nat.beq a s = (s == a) := by rw [Bool.eq_iff_iff]; simp; exact ⟨fun e => e.symm, fun e => e.symm⟩
    rw [this]
def allLt (n : Nat) (l : List Nat) : Bool := List.rec (motive := fun _ => Bool) true (fun a _ ih => and (Nat.blt a n) ih) l
theorem allLt_eq {n : Nat} : ∀ {l : List Nat}, allLt n l = true → ∀ a ∈ l, a < n
  | [], _, a, h => by cases h
  | b :: l, h, a, ha => by
    have h : and (Nat.blt b n) (allLt n l) = true := h
    have h1 : Nat.blt b n = true := by
      cases hb : Nat.blt b n with
      | true => rfl
      | false => rw [hb] at h; cases h
    rw [h1] at h
    rcases List.mem_cons.1 ha with rfl | ha
    · exact Nat.of_blt h1
    · exact allLt_eq (show allLt n l = true from h) a ha
/-- each entry that has not been handed out may be the next one -/
def candE (seen : List Nat) (f : Nat → V → V → Bool) (es : List (V × V)) : List Nat → Bool := List.rec (motive := fun _ => List Nat → Bool) (fun _ => true)
  (fun e _ ih st => List.rec (motive := fun _ => Bool) false (fun s st _ => grd (alt (memN s seen) true (Prod.rec (motive := fun _ => Bool) (f s) e)) (ih st)) st) es
def noneE (seen : List Nat) (st : List Nat) : Bool := List.rec (motive := fun _ => Bool) true (fun s _ ih => and (memN s seen) ih) st
theorem noneE_eq {seen : List Nat} : ∀ {st : List Nat}, noneE seen st = true ↔ ∀ s ∈ st, seen.contains s = true
  | [] => by simp [noneE]
  | s :: st => by
    have e : noneE seen (s :: st) = and (memN s seen) (noneE seen st) := rfl
    rw [e, memN_eq]
    have ih := noneE_eq (seen := seen) (st := st)
    cases hs : seen.contains s with
    | true =>
      have : and true (noneE seen st) = noneE seen st := rfl
      rw [this, ih]; simp only [List.mem_cons, forall_eq_or_imp, hs, true_and]
    | false =>
      have : and false (noneE seen st) = false := rfl
      rw [this]; simp only [List.mem_cons, forall_eq_or_imp, hs]; simp
theorem candE_inv {m : M} {seen : List Nat} {f : Nat → V → V → Bool} : ∀ {es : List (V × V)} {l : List MapEntry} (r : ERel m es l), candE seen f es (l.map (·.born)) = true →
    ∀ e ∈ l, seen.contains e.born = false → ∃ k v, VRel m k e.key ∧ VRel m v e.val ∧ f e.born k v = true
  | _, _, .nil, _, e, he, _ => by cases he
  | _, _, .cons k v e0 es l hk hv t, h, e, he, hs => by
    obtain ⟨h1, h2⟩ := grd_inv (show grd (alt (memN e0.born seen) true (f e0.born k v)) (candE seen f es (l.map (·.born))) = true from h)
    rcases List.mem_cons.1 he with rfl | he
    · rw [memN_eq, hs] at h1
      exact ⟨k, v, hk, hv, h1⟩
    · exact candE_inv t h2 e he hs
def endT : V := .tup [.bool false]
theorem endT_rel (m : M) : VRel m endT (.tuple #[.bool false]) := .tup [.bool false] [.bool false] (.cons _ _ _ _ (.bool false) .nil)
def nextS (h : Hp) (b : BId) (K : V → Hp → Bool) (l : List Nat) (pos : Nat) : Bool := lnK l 0 fun n => alt (Nat.blt pos n) (nthN l pos fun c => grd (Nat.blt c 128) (fN (Nat.add pos 1) fun p => setB h b (some (.siter l p)) fun h => K (.tup [.bool true, .int .i64 (.ofNat pos), .int .i32 (.ofNat c)]) h)) (K endT h)
def nextE (h : Hp) (b : BId) (K : V → Hp → Bool) (m : BId) (since : Nat) (seen : List Nat) (clock : Nat) (s : Nat) (k v : V) : Bool := setB h b (some (.iter (some m) since (s :: seen) clock)) fun h => K (.tup [.bool true, k, v]) h
def nextM (h : Hp) (b : BId) (K : V → Hp → Bool) (m : Option BId) (since : Nat) (seen : List Nat) (last : Nat) : Bool := Option.rec (motive := fun _ => Bool) (K endT h) (fun m => onMap h m fun clock es st =>
  grd (allLt since st) (grd (Nat.ble since last) (alt (noneE seen st) (K endT h) (candE seen (nextE h b K m since seen clock) es st)))) m
def iterC (x : Blk) (f : Option BId → Nat → List Nat → Nat → Bool) (g : List Nat → Nat → Bool) : Bool := Blk.rec (motive := fun _ => Bool) (fun _ _ => false) (fun _ _ _ => false) f g x
theorem iterC_inv {x : Blk} {f : Option BId → Nat → List Nat → Nat → Bool} {g : List Nat → Nat → Bool} (h : iterC x f g = true) : (∃ b since seen last, x = .iter b since seen last ∧ f b since seen last = true) ∨ ∃ l pos, x = .siter l pos ∧ g l pos = true := by
  cases x <;> first | exact .inl ⟨_, _, _, _, rfl, h⟩ | exact .inr ⟨_, _, rfl, h⟩ | cases h
def noI (_ : Option BId) (_ : Nat) (_ : List Nat) (_ : Nat) : Bool := false
def noS (_ : List Nat) (_ : Nat) : Bool := false
def nextK (it : V) (s : Bool) (h : Hp) (K : V → Hp → Bool) : Bool := onPtr it fun b off => grd (Nat.beq off 0) (getK h b fun x => alt s (iterC x noI (nextS h b K)) (iterC x (nextM h b K) noS))
theorem next_map {P : Program} (w : World) (ty : TypeId) (I bm since c0 : Nat) (sp : Option Nat) (seen : Array Nat) (es : Array MapEntry) (clock : Nat) (hI : w.heap[I]? = some (.mapIter (some bm) since seen c0)) (hb : w.heap[bm]? = some (.map es clock)) (hold : ∀ x ∈ es.toList, x.born < since) (hsc : since ≤ c0) :
    ((leftOf es seen).size = 0 ∧ (Instr.next (.pointer (some ⟨I, 0, none⟩)) false ty).run P w = .ok (.tuple #[.bool false]) w) ∨
    ∃ e ∈ (leftOf es seen).toList, ∃ w1 w2 : World, (w1 = w ∨ w1 = { w with drawn := w.drawn + 1 }) ∧ But w1 w2 I (.mapIter (some bm) since (seen.push e.born) clock) ∧ (Instr.next (.pointer (some ⟨I, 0, none⟩)) false ty).run P w = .ok (.tuple #[.bool true, e.key, e.val]) w2 := by
  simp only [Instr.next, getObj, Sem.run_bind, Sem.run, hI, hb, Result.andThen, next_test_false seen es since c0 hold hsc, Bool.false_eq_true, if_false]
  unfold leftOf
  have hmem : ∀ x ∈ (Array.filter (fun e => !seen.contains e.born) es).toList, x.born < since := fun x hx => hold x (by simp at hx ⊢; exact hx.1)
  generalize Array.filter (fun e => !seen.contains e.born) es = L at hmem ⊢
  have e1 : L.filter (fun x => decide (x.born < since)) = L := Array.filter_eq_self.2 (fun x hx => by simpa using hmem x (by simpa using hx))
  have e2 : L.filter (fun x => decide (x.born ≥ since)) = #[] := by
    rw [Array.filter_eq_empty_iff]
    intro x hx
    have := hmem x (by simpa using hx)
    simp
    omega
  simp only [e1, e2, Array.append_empty]
  by_cases h0 : L.size = 0
  · left
    have : L = #[] := Array.eq_empty_of_size_eq_zero h0
    subst this
    refine ⟨rfl, ?_⟩
    simp [choose, Sem.run, Question.forced]
  · right
    have hne : L.isEmpty = false := by simp [Array.isEmpty, h0]
    simp only [hne, Bool.false_eq_true, if_false, Array.empty_append, Array.size_map]
    have hch : ∃ (j : Nat) (w1 : World), j < L.size ∧ (w1 = w ∨ w1 = { w with drawn := w.drawn + 1 }) ∧ (choose (Question.mapNext L.size)).run P w = .ok j w1 := by
      by_cases hf : L.size ≤ 1
      · exact ⟨0, w, by omega, .inl rfl, by simp [choose, Sem.run, Question.forced, hf]⟩
      · exact ⟨_, { w with drawn := w.drawn + 1 }, Nat.mod_lt _ (by omega), .inr rfl, by
          simp only [choose, Sem.run, Question.forced, decide_eq_true_eq, hf, if_false, Question.cut]
          rfl⟩
    obtain ⟨j, w1, hj, hal, hrun⟩ := hch
    have hI1 : w1.heap[I]? = some (.mapIter (some bm) since seen c0) := by rcases hal with rfl | rfl <;> exact hI
    obtain ⟨w2, hset, hbut⟩ := run_setObjs (P := P) (o' := .mapIter (some bm) since (seen.push L[j].born) clock) hI1 (by intro _ _ _ e; cases e)
    refine ⟨L[j], by simp, w1, w2, hal, hbut, ?_⟩
    simp only [hrun, Array.getElem?_map, Array.getElem?_eq_getElem hj, Option.map_some, Sem.run_bind, hset, Result.andThen]
    rfl
theorem HRel.iterAt {G : Fr} {m : M} {h : Hp} {w : World} (r : HRel G m h w) {b : BId} {x : Blk} (hx : h.at b = some x) {v : Value} (rv : VRel m (.ptr b 0) v) {P : Nat → Nat → Prop} (hz : ∀ base sz o, BRel m base sz x o → base = 0) :
    ∃ B sz o, m b = .live B 0 sz ∧ w.heap[B]? = some o ∧ BRel m 0 sz x o ∧ v = .pointer (some ⟨B, 0, none⟩) := by
  obtain ⟨B, base, sz, o, hm, hw, hr⟩ := r.blk b x hx
  have h0 := hz base sz o hr
  subst h0
  cases rv with
  | ptr _ _ a ra =>
    unfold PRel at ra
    rw [hm] at ra
    subst ra
    exact ⟨B, sz, o, hm, hw, hr, rfl⟩
theorem nextK_many {P : Program} {G : Fr} {m : M} {h : Hp} {w : World} (r : HRel G m h w) {x : V} {x' : Value} (rx : VRel m x x') {s : Bool} (ty : TypeId) {K : V → Hp → Bool} (e : nextK x s h K = true) : Many P G m h w (Instr.next x' s ty) K := by
  obtain ⟨b, off, rfl, h1⟩ := onPtr_inv e
  obtain ⟨h2, h3⟩ := grd_inv h1
  have h2 : off = 0 := Nat.eq_of_beq_eq_true h2
  subst h2
  obtain ⟨blk, hb, h4⟩ := getK_inv h3
  rcases alt_inv h4 with ⟨rfl, h5⟩ | ⟨rfl, h5⟩
  · rcases iterC_inv h5 with ⟨_, _, _, _, _, h6⟩ | ⟨l, pos, rfl, h6⟩
    · cases h6
    · obtain ⟨B, sz, o, hm, hw, hr, rfl⟩ := r.iterAt (P := fun _ _ => True) hb rx (fun _ _ _ h => h.1)
      obtain ⟨_, str, rfl, hl⟩ := hr
      have h7 := lnK_inv (show lnK l 0 _ = true from h6)
      have hsz : str.size = l.length := size_of_rel hl
      rcases alt_inv h7 with ⟨h8, h9⟩ | ⟨h8, h9⟩
      · have h8 : pos < l.length := by have := Nat.of_blt h8; omega
        obtain ⟨c, hc, h10⟩ := nthN_inv h9
        obtain ⟨h11, h12⟩ := grd_inv h10
        rw [fN_eq] at h12
        have h11 := Nat.of_blt h11
        have hp : pos < str.size := by omega
        have hcb : (str[pos]'hp).toNat = c := by
          have h4 : (str.data.toList.map UInt8.toNat)[pos]? = some c := by rw [hl]; exact hc
          have hn' : pos < str.data.size := hp
          rw [List.getElem?_map, Array.getElem?_toList, Array.getElem?_eq_getElem hn'] at h4
          have e : str[pos] = str.data[pos]'hn' := rfl
          rw [e]; simpa using h4
        have hdec := decode_ascii str pos hp (by rw [hcb]; exact h11)
        obtain ⟨w2, hset, hbut⟩ := run_setObjs (P := P) (o' := .stringIter str (pos + 1)) hw (by intro _ _ _ e; cases e)
        have r' := r.upd (x' := .siter l (pos + 1)) hb rfl hm hbut ⟨rfl, str, rfl, hl⟩
        refine ⟨_, .tuple #[.bool true, .int .i64 (Int.ofNat pos), .int .i32 (Int.ofNat c)], _, w2, m, ?_, Ext.upd _ hb, .tup [.bool true, .int .i64 (Int.ofNat pos), .int .i32 (Int.ofNat c)] [.bool true, .int .i64 (Int.ofNat pos), .int .i32 (Int.ofNat c)] (.cons _ _ _ _ (.bool true) (.cons _ _ _ _ (.int _ _) (.cons _ _ _ _ (.int _ _) .nil))), r', setB_inv h12⟩
        simp only [Instr.next, getObj, Sem.run_bind, Sem.run, hw, Result.andThen, hp, if_true, hdec, hset]
        rw [hcb]
        rfl
      · have hp : ¬ pos < str.size := by
          intro hp
          have : Nat.blt pos (0 + l.length) = true := by rw [blt_dec]; simp; omega
          rw [this] at h8; cases h8
        exact ⟨_, _, h, w, m, by simp [Instr.next, getObj, Sem.run, hw, hp], Ext.refl m h, endT_rel m, r, h9⟩
  · rcases iterC_inv h5 with ⟨mb, since, seen, last, rfl, h6⟩ | ⟨_, _, _, h6⟩
    · obtain ⟨B, sz, o, hm, hw, hr, rfl⟩ := r.iterAt (P := fun _ _ => True) hb rx (fun _ _ _ h => h.1)
      obtain ⟨_, mr, rfl, hir⟩ := hr
      cases mb with
      | none =>
        have hir : mr = none := hir
        subst hir
        exact ⟨_, _, h, w, m, by simp [Instr.next, getObj, Sem.run, hw], Ext.refl m h, endT_rel m, r, h6⟩
      | some mb =>
        obtain ⟨R, rfl, hR⟩ := hir
        obtain ⟨clock, es, st, hmb, h7⟩ := onMap_inv (show onMap h mb _ = true from h6)
        obtain ⟨h8, h9⟩ := grd_inv h7
        obtain ⟨h10, h11⟩ := grd_inv h9
        obtain ⟨l, base, sz', hmm, hmw, he, hst⟩ := r.mapOf hmb hR
        have hold : ∀ x ∈ l.toList, x.born < since := fun x hx => allLt_eq h8 _ (by rw [← hst]; exact List.mem_map.2 ⟨x, hx, rfl⟩)
        have hleft : (leftOf l seen.reverse.toArray).toList = l.toList.filter (fun e => !seen.contains e.born) := by simp [leftOf]
        rcases next_map (P := P) w ty B R since last none seen.reverse.toArray l clock hw hmw hold (Nat.le_of_ble_eq_true h10) with ⟨h0, hrun⟩ | ⟨e1, he1, w1, w2, hw1, hbut, hrun⟩
        · have hnone : noneE seen st = true := by
            rw [noneE_eq]
            intro s hs
            rw [← hst] at hs
            obtain ⟨x, hx, rfl⟩ := List.mem_map.1 hs
            have hemp : (leftOf l seen.reverse.toArray).toList = [] := List.eq_nil_of_length_eq_zero (by simpa using h0)
            rw [hleft, List.filter_eq_nil_iff] at hemp
            simpa using hemp x hx
          rcases alt_inv h11 with ⟨_, h12⟩ | ⟨h12, _⟩
          · exact ⟨_, _, h, w, m, hrun, Ext.refl m h, endT_rel m, r, h12⟩
          · rw [hnone] at h12; cases h12
        · rw [hleft] at he1
          obtain ⟨he2, he3⟩ := List.mem_filter.1 he1
          have he3 : seen.contains e1.born = false := by simpa using he3
          have hnone : noneE seen st = false := by
            cases hc : noneE seen st with
            | false => rfl
            | true =>
              have := noneE_eq.1 hc e1.born (by rw [← hst]; exact List.mem_map.2 ⟨e1, he2, rfl⟩)
              rw [he3] at this; cases this
          rcases alt_inv h11 with ⟨h12, _⟩ | ⟨_, h12⟩
          · rw [hnone] at h12; cases h12
          · obtain ⟨k, v, rk, rv, h13⟩ := candE_inv he (by rw [hst]; exact h12) e1 he2 he3
            have r1 : HRel G m h w1 := by rcases hw1 with rfl | rfl; exact r; exact r.drew
            have r' := r1.upd (x' := .iter (some mb) since (e1.born :: seen) clock) hb rfl hm hbut ⟨rfl, some R, by simp, R, rfl, hR⟩
            exact ⟨_, _, _, w2, m, hrun, Ext.upd _ hb, .tup [.bool true, k, v] [.bool true, e1.key, e1.val] (.cons _ _ _ _ (.bool true) (.cons _ _ _ _ rk (.cons _ _ _ _ rv .nil))), r', setB_inv h13⟩
    · cases h6

-- the entry that the last step handed out
def findS (s : Nat) (K : V → Bool) (es : List (V × V)) : List Nat → Bool := List.rec (motive := fun _ => List Nat → Bool) (fun _ => false)
  (fun e _ ih st => List.rec (motive := fun _ => Bool) false (fun s' st _ => alt (Nat.beq s' s) (Prod.rec (motive := fun _ => Bool) (fun k v => K (.tup [k, v])) e) (ih st)) st) es
theorem findS_inv {m : M} {s : Nat} {K : V → Bool} : ∀ {es : List (V × V)} {l : List MapEntry} (r : ERel m es l), findS s K es (l.map (·.born)) = true →
    ∃ e k v, l.find? (·.born == s) = some e ∧ VRel m k e.key ∧ VRel m v e.val ∧ K (.tup [k, v]) = true
  | _, _, .nil, h => by cases h
  | _, _, .cons k v e0 es l hk hv t, h => by
    rcases alt_inv (show alt (Nat.beq e0.born s) (K (.tup [k, v])) (findS s K es (l.map (·.born))) = true from h) with ⟨h1, h2⟩ | ⟨h1, h2⟩
    · have h1 : e0.born = s := Nat.eq_of_beq_eq_true h1
      exact ⟨e0, k, v, by simp [h1], hk, hv, h2⟩
    · have hq : (e0.born == s) = Nat.beq e0.born s := by rw [Bool.eq_iff_iff]; simp
      rw [← hq] at h1
      obtain ⟨e, k1, v1, h3, h4⟩ := findS_inv t h2
      exact ⟨e, k1, v1, by rw [List.find?_cons, h1]; exact h3, h4⟩
def entryM (h : Hp) (K : V → Bool) (m : Option BId) (_ : Nat) (seen : List Nat) (last : Nat) : Bool := optK m fun m => List.rec (motive := fun _ => Bool) false (fun s _ _ => onMap h m fun clock es st => grd (Nat.beq clock last) (findS s K es st)) seen
def entryK (it : V) (h : Hp) (K : V → Bool) : Bool := onPtr it fun b off => grd (Nat.beq off 0) (getK h b fun x => iterC x (entryM h K) noS)
theorem entryK_one {P : Program} {G : Fr} {m : M} {h : Hp} {w : World} (r : HRel G m h w) {x : V} {x' : Value} (rx : VRel m x x') {K : V → Bool} (e : entryK x h K = true) : One P m w (Instr.entry x') K := by
  obtain ⟨b, off, rfl, h1⟩ := onPtr_inv e
  obtain ⟨h2, h3⟩ := grd_inv h1
  have h2 : off = 0 := Nat.eq_of_beq_eq_true h2
  subst h2
  obtain ⟨blk, hb, h4⟩ := getK_inv h3
  rcases iterC_inv h4 with ⟨mb, since, seen, last, rfl, h6⟩ | ⟨_, _, _, h6⟩
  · obtain ⟨B, sz, o, hm, hw, hr, rfl⟩ := r.iterAt (P := fun _ _ => True) hb rx (fun _ _ _ h => h.1)
    obtain ⟨_, mr, rfl, hir⟩ := hr
    obtain ⟨mb, rfl, h7⟩ := optK_inv (show optK mb _ = true from h6)
    obtain ⟨R, rfl, hR⟩ := hir
    cases seen with
    | nil => cases h7
    | cons s seen =>
      obtain ⟨clock, es, st, hmb, h8⟩ := onMap_inv (show onMap h mb _ = true from h7)
      obtain ⟨h9, h10⟩ := grd_inv h8
      have h9 : clock = last := Nat.eq_of_beq_eq_true h9
      subst h9
      obtain ⟨l, base, sz', hmm, hmw, he, hst⟩ := r.mapOf hmb hR
      obtain ⟨e1, k, v, hf, rk, rv, hK⟩ := findS_inv he (by rw [hst]; exact h10)
      have hf2 : l.find? (·.born == s) = some e1 := by rw [← Array.find?_toList]; exact hf
      refine ⟨_, .tuple #[e1.key, e1.val], ?_, .tup [k, v] [e1.key, e1.val] (.cons _ _ _ _ rk (.cons _ _ _ _ rv .nil)), hK⟩
      have hback : ((s :: seen).reverse.toArray).back? = some s := by simp
      simp only [Instr.entry, getObj, Sem.run_bind, Sem.run, hw, hmw, Result.andThen, hback, bne_self_eq_false, Bool.false_eq_true, if_false, hf2]
      rfl
  · cases h6
end
end Go.Ev
namespace Go.Ev
noncomputable section

/-- a conversion that makes no block -/
def cvPure (P : Program) (s d : TypeId) : Bool := match cvT P s d with
  | some .toB => false
  | some _ => true
  | none => false
theorem convertK_one {P : Program} {G : Fr} {m : M} {h : Hp} {w : World} (r : HRel G m h w) {x : V} {x' : Value} (rx : VRel m x x') {s d : TypeId} {K : V → Hp → Bool} (hp : cvPure P s d = true) (e : convertK P s d x h K = true) :
    One P m w (convert s d x') (fun v => K v h) := by
  obtain ⟨c, hc, h1⟩ := optK_inv e
  have hnb : c ≠ .toB := by
    intro hb; subst hb; unfold cvPure at hp; rw [hc] at hp; cases hp
  unfold cvT at hc
  split at hc
  · rename_i u k hs hd
    cases hc
    obtain ⟨k', n, rfl, h2⟩ := cvInt_inv (show cvInt x h K k = true from h1)
    cases rx
    exact ⟨_, _, cv_int hs hd, .int k _, h2⟩
  · rename_i hs hd
    cases hc
    obtain ⟨l, rfl, h2⟩ := onStr_inv (show onStr x _ = true from h1)
    cases rx with
    | str _ t hl => exact ⟨_, _, cv_same hs hd, .str l t hl, h2⟩
  · rename_i el hs hd
    split at hc
    · rename_i he
      cases hc
      rcases onSlish_inv (show onSlish x _ _ _ = true from h1) with ⟨b, off, len, cap, rfl, h2⟩ | ⟨rfl, h2⟩ | ⟨rfl, h2⟩
      · obtain ⟨ro, cs, hb, h3⟩ := onCells_inv h2
        obtain ⟨h4, h5⟩ := dropK_inv h3
        obtain ⟨h6, h7⟩ := takeK_inv h5
        cases rx with
        | sl _ _ _ _ a c ra hl hc =>
          obtain ⟨l, str, hr, hstr, hK⟩ := cv_toS r hs he hd hb ra h6 h7 (c := c)
          exact ⟨_, _, hr, .str l str hstr, hK⟩
        | sl0 _ _ _ a ra =>
          refine ⟨_, .string ByteArray.empty, ?_, .str [] _ rfl, h7⟩
          rw [run_convert_bytes_string w s d el _ _ _ hs he hd]
          exact run_bytesToString w a 0 0 [] rfl
      · cases rx
        exact ⟨_, .string ByteArray.empty, run_convert_bytes_nil w s el hs he 0 0 d hd, .str [] _ rfl, h2⟩
      · cases rx with
        | emp a c =>
          refine ⟨_, .string ByteArray.empty, ?_, .str [] _ rfl, h2⟩
          rw [run_convert_bytes_string w s d el _ _ _ hs he hd]
          exact run_bytesToString w a 0 c [] rfl
    · cases hc
  · rename_i el hs hd
    split at hc
    · cases hc; exact absurd rfl hnb
    · cases hc
  · cases hc

-- what stands deferred
structure Dfr where
  f : FuncId
  args : List V
def DRel1 (m : M) (x : Dfr) (d : Deferred) : Prop := ∃ cap, d.target = .fn (.func x.f) cap ∧ LRel m x.args (d.args.toList ++ cap.toList)
inductive DRel (m : M) : List Dfr → List Deferred → Prop
  | nil : DRel m [] []
  | cons (x d l l') (h : DRel1 m x d) (t : DRel m l l') : DRel m (x :: l) (d :: l')
theorem DRel.mono {m n : M} (h : Le m n) : ∀ {l : List Dfr} {l' : List Deferred}, DRel m l l' → DRel n l l'
  | _, _, .nil => .nil
  | _, _, .cons x d l l' ⟨cap, a, b⟩ t => .cons x d l l' ⟨cap, a, b.mono h⟩ (t.mono h)

/-- what a frame holds -/
structure SRel (G : Fr) (m : M) (nt : Nat) (tm : Tm) (ds : List Dfr) (h : Hp) (a : Act) (w : World) : Prop where
  t : TRel m nt tm a
  d : DRel m ds a.defers
  h : HRel G m h w
  g : GRel m

abbrev Ko := V → List Dfr → Hp → Bool
abbrev OpF := Program → Tm → List Dfr → Hp → Ko → Bool
abbrev CallF := FuncId → List V → Hp → (V → Hp → Bool) → Bool
def oNo : OpF := fun _ _ _ _ _ => false
def oMove (x : Operand) : OpF := fun _ tm ds h K => ev x tm fun v => K v ds h
def oPick (c a b : Operand) : OpF := fun _ tm ds h K => ev c tm fun c => onBool c fun c => alt c (ev a tm fun v => K v ds h) (ev b tm fun v => K v ds h)
def oAlloc (t : TypeId) : OpF := fun P _ ds h K => allocK P t h fun v h => K v ds h
def oBox (_ : TypeId) (x : Operand) : OpF := fun _ tm ds h K => ev x tm fun v => boxK v h fun v h => K v ds h
def partsV (l : List (Nat × Operand)) : Tm → (List (Nat × V) → Bool) → Bool := List.rec (motive := fun _ => Tm → (List (Nat × V) → Bool) → Bool) (fun _ K => K [])
  (fun p _ ih tm K => Prod.rec (motive := fun _ => Bool) (fun i x => ev x tm fun v => ih tm fun vs => K ((i, v) :: vs)) p) l
theorem partsV_inv {m : M} {nt : Nat} {tm : Tm} {a : Act} (hg : GRel m) (ht : TRel m nt tm a) : ∀ {l : List (Nat × Operand)} {K : List (Nat × V) → Bool}, partsV l tm K = true →
    ∃ vs, PsRel m vs (l.map fun p => (p.1, a.eval p.2)) ∧ K vs = true
  | [], K, h => ⟨[], .nil, h⟩
  | (i, x) :: l, K, h => by
    obtain ⟨v, hv, h⟩ := ev_inv hg ht (h : ev x tm (fun v => partsV l tm fun vs => K ((i, v) :: vs)) = true)
    obtain ⟨vs, hvs, h⟩ := partsV_inv hg ht h
    exact ⟨(i, v) :: vs, .cons _ _ _ _ _ hv hvs, h⟩
def oBuild (t : TypeId) (ps : Array (Nat × Operand)) : OpF := fun P tm ds h K => partsV ps.toList tm fun ps => buildK P t ps fun v => K v ds h
def oBuildSlice (t : TypeId) (len : Nat) (ps : Array (Nat × Operand)) : OpF := fun P tm ds h K => partsV ps.toList tm fun ps => buildSliceK P t len ps h fun v h => K v ds h
def oLoad (t : TypeId) (a : Operand) : OpF := fun P tm ds h K => ev a tm fun p => loadK P t h p fun v => K v ds h
def oStore (t : TypeId) (a x : Operand) : OpF := fun P tm ds h K => ev a tm fun p => ev x tm fun v => storeK P t h p v fun h => K nilT ds h
def fnPlain (f : Fn) (x : Bool) : Bool := Fn.rec (motive := fun _ => Bool) (fun _ => x) (fun _ => false) (fun _ _ => false) (fun _ _ _ _ => false) (fun _ => false) f
def onChk (v : V) (x : Bool) : Bool := V.rec (motive_1 := fun _ => Bool) (motive_2 := fun _ => Bool) (fun _ _ => x) (fun _ => x) (fun _ => x) (fun _ _ => x) false (fun _ _ _ _ => x) x x (fun _ => x) x (fun f _ _ _ _ => fnPlain f x) false (fun _ _ _ => x) false (fun _ _ => x) (fun _ _ => x) false (fun _ _ _ _ => false) v
def oNilCheck (x : Operand) : OpF := fun _ tm ds h K => ev x tm fun v => onChk v (K v ds h)
def oBin (op : BinOp) (t : TypeId) (x y : Operand) (_ : TypeId) : OpF := fun P tm ds h K => ev x tm fun a => ev y tm fun b => binK a b op t x y P fun v => K v ds h
def oUn (op : UnOp) (_ : TypeId) (x : Operand) : OpF := fun _ tm ds h K => ev x tm fun a => unK op a fun v => K v ds h
def oConvert (s d : TypeId) (x : Operand) : OpF := fun P tm ds h K => ev x tm fun a => convertK P s d a h fun v h => K v ds h
def oMakeInterface (t : TypeId) (x : Operand) : OpF := fun P tm ds h K => grd (ifcT P t) (ev x tm fun v => K (.ifc t v) ds h)
def oMakeFunc (f : Fn) (a c : Array Operand) : OpF := fun P tm ds h K => evs a.toList tm fun a => evs c.toList tm fun c => K (.fn f a c) ds h
def newMapK (h : Hp) (K : V → Hp → Bool) : Bool := newK h (.map 0 [] []) fun b h => K (.mp b) h
def oMakeMap (t : TypeId) (r : Option Operand) : OpF := fun P tm ds h K => Option.rec (motive := fun _ => Bool) (newMapK h fun v h => K v ds h) (fun r => grd (mapTy P t) (ev r tm fun v => onInt v fun _ _ => newMapK h fun v h => K v ds h)) r
def oMakeSlice (t : TypeId) (l c : Operand) : OpF := fun P tm ds h K => ev l tm fun l => ev c tm fun c => makeSliceK P t l c h fun v h => K v ds h
def oSlice (t : TypeId) (x : Operand) (lo hi mx : Option Operand) : OpF := fun P tm ds h K => ev x tm fun x => optV lo tm fun lo => optV hi tm fun hi => optV mx tm fun mx => sliceK P t x lo hi mx fun v => K v ds h
def oFieldAddr (t : TypeId) (x : Operand) (f : Nat) : OpF := fun P tm ds h K => ev x tm fun x => fieldAddrK P t f x fun v => K v ds h
def oField (t : TypeId) (x : Operand) (f : Nat) : OpF := fun P tm ds h K => ev x tm fun x => fieldK P t f x fun v => K v ds h
def oIndexAddr (t : TypeId) (x i : Operand) : OpF := fun P tm ds h K => ev x tm fun x => ev i tm fun i => indexAddrK P t x i fun v => K v ds h
def oIndex (t : TypeId) (x i : Operand) : OpF := fun P tm ds h K => ev x tm fun x => ev i tm fun i => indexK P t x i fun v => K v ds h
def oLookup (t : TypeId) (m k : Operand) (ok : Bool) : OpF := fun P tm ds h K => ev m tm fun m => ev k tm fun k => lookupK P t m k ok h fun v => K v ds h
def oUpdate (t : TypeId) (m k x : Operand) : OpF := fun P tm ds h K => ev m tm fun m => ev k tm fun k => ev x tm fun x => mapUpdateK P t m k x h fun h => K nilT ds h
def oRange (t : TypeId) (x : Operand) : OpF := fun P tm ds h K => ev x tm fun x => rangeK P t x h fun v h => K v ds h
def oNext (x : Operand) (s : Bool) : OpF := fun P tm ds h K => ev x tm fun x => nextK x s h fun v h => K v ds h
def oEntry (x : Operand) : OpF := fun P tm ds h K => ev x tm fun x => entryK x h fun v => K v ds h
def oExtract (x : Operand) (i : Nat) : OpF := fun P tm ds h K => ev x tm fun x => extractK i x fun v => K v ds h
def fst1 (l : List V) (f : V → Bool) : Bool := List.rec (motive := fun _ => Bool) false (fun v r _ => List.rec (motive := fun _ => Bool) (f v) (fun _ _ _ => false) r) l
theorem fst1_inv {l : List V} {f : V → Bool} (h : fst1 l f = true) : ∃ v, l = [v] ∧ f v = true := by
  cases l with
  | nil => cases h
  | cons v r => cases r with
    | nil => exact ⟨v, rfl, h⟩
    | cons => cases h
def fst2 (l : List V) (f : V → V → Bool) : Bool := List.rec (motive := fun _ => Bool) false (fun v l _ => List.rec (motive := fun _ => Bool) false (fun u r _ => List.rec (motive := fun _ => Bool) (f v u) (fun _ _ _ => false) r) l) l
theorem fst2_inv {l : List V} {f : V → V → Bool} (h : fst2 l f = true) : ∃ v u, l = [v, u] ∧ f v u = true := by
  cases l with
  | nil => cases h
  | cons v r => cases r with
    | nil => cases h
    | cons u r => cases r with
      | nil => exact ⟨v, u, rfl, h⟩
      | cons => cases h
def ty1 (l : List TypeId) (f : TypeId → Bool) : Bool := List.rec (motive := fun _ => Bool) false (fun v _ _ => f v) l
theorem ty1_inv {l : List TypeId} {f : TypeId → Bool} (h : ty1 l f = true) : ∃ t, l[0]? = some t ∧ f t = true := by
  cases l with
  | nil => cases h
  | cons v r => exact ⟨v, rfl, h⟩
abbrev BiF := Program → List TypeId → List V → List Dfr → Hp → Ko → Bool
def bNo : BiF := fun _ _ _ _ _ _ => false
def bAppend : BiF := fun P ts vs ds h K => fst2 vs fun s x => appendK P ts s x h fun v h => K v ds h
def bCap : BiF := fun P ts vs ds h K => ty1 ts fun t => fst1 vs fun x => capK P t x fun v => K v ds h
def bClear : BiF := fun P ts vs ds h K => ty1 ts fun t => fst1 vs fun x => clearK P t x h fun v h => K v ds h
def bCopy : BiF := fun P ts vs ds h K => ty1 ts fun t => fst2 vs fun d s => copyK P t d s h fun v h => K v ds h
def bDelete : BiF := fun P ts vs ds h K => ty1 ts fun t => fst2 vs fun m k => deleteK P t m k h fun v h => K v ds h
def bLen : BiF := fun P ts vs ds h K => ty1 ts fun t => fst1 vs fun x => lenK P t x h fun v => K v ds h
def bMx (mx : Bool) : BiF := fun P ts vs ds h K => List.rec (motive := fun _ => Bool) false (fun x l _ => onInt x fun k x => foldM mx l k x fun v => K v ds h) vs
def biK (b : Builtin) : BiF := Builtin.rec (motive := fun _ => BiF) bAppend bCap bClear bNo bNo bCopy bDelete bNo bLen bNo (bMx true) (bMx false) bNo bNo bNo bNo bNo bNo bNo bNo bNo bNo bNo bNo bNo bNo b
def calleeF (args : List V) (K : FuncId → List V → Bool) (f : Fn) (first cap : List V) : Bool := Fn.rec (motive := fun _ => Bool) (fun f => catK cap args (fun l => catK l first (K f))) (fun _ => false) (fun _ _ => false) (fun _ _ _ _ => false) (fun _ => false) f
def calleeK (x : V) (args : List V) (K : FuncId → List V → Bool) : Bool := onFn x (calleeF args K)
def oCallV (cf : CallF) (args : List Operand) (f : Operand) : OpF := fun P tm ds h K => ev f tm fun x => evs args tm fun vs => calleeK x vs fun f l => cf f l h fun v h => K v ds h
def oCallB (args : List Operand) (ts : List TypeId) (b : Builtin) : OpF := fun P tm ds h K => evs args tm fun vs => biK b P ts vs ds h K
def oCall (cf : CallF) (c : Call) : OpF := Call.rec (motive := fun _ => OpF) (fun callee args ts => Callee.rec (motive := fun _ => OpF) (oCallV cf args.toList) (fun _ _ => oNo) (oCallB args.toList ts.toList) callee) c
def oDeferV (args : List Operand) (f : Operand) : OpF := fun P tm ds h K => ev f tm fun x => evs args tm fun vs => calleeK x vs fun f l => K nilT (⟨f, l⟩ :: ds) h
def oDefer (c : Call) : OpF := Call.rec (motive := fun _ => OpF) (fun callee args ts => Callee.rec (motive := fun _ => OpF) (oDeferV args.toList) (fun _ _ => oNo) (fun _ => oNo) callee) c
def operK (cf : CallF) (op : Op) : OpF := Op.rec (motive := fun _ => OpF) oMove oMove oPick oAlloc oBox oBuild oBuildSlice oUpdate oLoad oStore (fun _ => oNo) (fun _ => oNo) oNilCheck oBin oUn oConvert (fun _ _ => oNo) oMakeInterface oMakeFunc oMakeMap (fun _ _ => oNo) oMakeSlice oSlice oFieldAddr oField oIndexAddr oIndex oLookup oUpdate (fun _ _ _ => oNo) (fun _ _ _ _ => oNo) oRange oNext oEntry (fun _ _ _ _ => oNo) oExtract (oCall cf) (fun _ => oNo) oDefer (fun _ => oNo) (fun _ _ => oNo) (fun _ _ _ => oNo) (fun _ _ => oNo) op

theorem onChk_inv {v : V} {x : Bool} (h : onChk v x = true) : x = true ∧ v ≠ .nilp ∧ v ≠ .nilf ∧ v ≠ .nili ∧ ∀ f a c, v = .fn f a c → ∃ g, f = .func g := by
  cases v
  case fn f a c =>
    have h1 : fnPlain f x = true := h
    cases f with
    | func g => exact ⟨h1, by simp, by simp, by simp, fun f a c e => by cases e; exact ⟨g, rfl⟩⟩
    | _ => cases h1
  all_goals first | (cases h; done) | exact ⟨h, by simp, by simp, by simp, fun f a c e => by cases e⟩

/-- a value, and nothing else -/
def biPure (b : Builtin) : Bool := match b with | .len | .cap | .max | .min => true | _ => false
def pureOp (P : Program) (op : Op) : Bool := match op with
  | .move _ | .assign _ | .pick _ _ _ | .build _ _ | .load _ _ | .nilCheck _ | .binOp _ _ _ _ _ | .unOp _ _ _ | .makeInterface _ _ | .makeFunc _ _ _ | .slice _ _ _ _ _ | .fieldAddr _ _ _ | .field _ _ _
  | .indexAddr _ _ _ | .index _ _ _ | .lookup _ _ _ _ | .entry _ | .extract _ _ => true
  | .convert s d _ => cvPure P s d
  | .call c => match c.callee with | .builtin b => biPure b | _ => false
  | _ => false
theorem map_arr {α β : Type} (f : α → β) (x : Array α) : x.map f = (x.toList.map f).toArray := by
  apply Array.toList_inj.1
  rw [Array.toList_map]
theorem run_v {P : Program} {w w' : World} {s : Sem Value} {v : Value} (h : s.run P w = .ok v w') : (do pure (Next.value (← s)) : Sem Next).run P w = .ok (.value v) w' := by simp [h]
/-- the operation's value -/
def OneOp (P : Program) (m : M) (w : World) (a : Act) (o : Oper) (K : V → Bool) : Prop := ∃ v v', (execOp a.eval o).run P w = .ok (.value v') w ∧ VRel m v v' ∧ K v = true
theorem One.op {P : Program} {m : M} {w : World} {s : Sem Value} {K : V → Bool} (h : One P m w s K) {a : Act} {o : Oper} (he : execOp a.eval o = do pure (Next.value (← s))) : OneOp P m w a o K := by
  obtain ⟨v, v', hr, rv, hK⟩ := h
  exact ⟨v, v', by rw [he]; exact run_v hr, rv, hK⟩
theorem max_run {P : Program} {w : World} {mx : Bool} {ts : Array TypeId} {ty : TypeId} {k : IntKind} {n : Int} {l : List Value} {v : Value} (h : (l.foldlM (fun a b => if mx then Builtin.max2 a b else Builtin.min2 a b) (.int k n)).run P w = .ok v w) :
    (if mx then Builtin.max_ ts ty (.int k n :: l).toArray else Builtin.min_ ts ty (.int k n :: l).toArray).run P w = .ok v w := by
  cases mx <;> simpa [Builtin.max_, Builtin.min_] using h
theorem optV_rel {m : M} {nt : Nat} {tm : Tm} {a : Act} (hg : GRel m) (ht : TRel m nt tm a) {x : Option Operand} {K : Option V → Bool} (h : optV x tm K = true) : ∃ v, ORel m v (x.map a.eval) ∧ K v = true := by
  rcases optV_inv hg ht h with ⟨rfl, h1⟩ | ⟨y, v, rfl, rv, h1⟩
  · exact ⟨none, .none, h1⟩
  · exact ⟨some v, .some _ _ rv, h1⟩
theorem oper_one {P : Program} (hP : Fields P) {cf : CallF} {G : Fr} {m : M} {nt : Nat} {tm : Tm} {ds : List Dfr} {h : Hp} {a : Act} {w : World} (s : SRel G m nt tm ds h a w) {o : Oper} (hp : pureOp P o.op = true) {K : Ko}
    (e : operK cf o.op P tm ds h K = true) : OneOp P m w a o (fun v => K v ds h) := by
  obtain ⟨dst, op, ty, pos, after, guard⟩ := o
  cases op <;> first | (cases hp; done) | skip
  case move x =>
    obtain ⟨v, rv, hK⟩ := ev_inv s.g s.t (show ev x tm _ = true from e)
    exact ⟨v, _, rfl, rv, hK⟩
  case assign x =>
    obtain ⟨v, rv, hK⟩ := ev_inv s.g s.t (show ev x tm _ = true from e)
    exact ⟨v, _, rfl, rv, hK⟩
  case pick c x y =>
    obtain ⟨v, rv, h1⟩ := ev_inv s.g s.t (show ev c tm _ = true from e)
    obtain ⟨b, rfl, h2⟩ := onBool_inv h1
    generalize hc : a.eval c = cv at rv
    cases rv
    rcases alt_inv h2 with ⟨rfl, h3⟩ | ⟨rfl, h3⟩
    · obtain ⟨u, ru, hK⟩ := ev_inv s.g s.t h3
      exact ⟨u, _, by simp [execOp, hc, asBool], ru, hK⟩
    · obtain ⟨u, ru, hK⟩ := ev_inv s.g s.t h3
      exact ⟨u, _, by simp [execOp, hc, asBool], ru, hK⟩
  case build t ps =>
    obtain ⟨vs, rvs, h1⟩ := partsV_inv s.g s.t (show partsV ps.toList tm _ = true from e)
    exact (buildK_one (P := P) hP (w := w) (ps' := ps.map fun (i, x) => (i, a.eval x)) (by simpa using rvs) h1).op rfl
  case load t x =>
    obtain ⟨v, rv, h1⟩ := ev_inv s.g s.t (show ev x tm _ = true from e)
    exact (loadK_one s.h rv h1).op rfl
  case nilCheck x =>
    obtain ⟨v, rv, h1⟩ := ev_inv s.g s.t (show ev x tm _ = true from e)
    obtain ⟨hK, n1, n2, n3, hf⟩ := onChk_inv h1
    refine ⟨v, a.eval x, ?_, rv, hK⟩
    generalize hc : a.eval x = cv at rv
    cases rv <;> first | exact absurd rfl n1 | exact absurd rfl n2 | exact absurd rfl n3 | skip
    case fn f l k l' k' r1 r2 =>
      obtain ⟨g, rfl⟩ := hf f l k rfl
      simp [execOp, hc]
    all_goals simp [execOp, hc]
  case binOp op t x y yt =>
    obtain ⟨v, rv, h1⟩ := ev_inv s.g s.t (show ev x tm _ = true from e)
    obtain ⟨u, ru, h2⟩ := ev_inv s.g s.t h1
    exact (binK_one (P := P) (w := w) rv ru (fun c hc => by subst hc; rfl) (fun c hc => by subst hc; rfl) h2).op rfl
  case unOp op t x =>
    obtain ⟨v, rv, h1⟩ := ev_inv s.g s.t (show ev x tm _ = true from e)
    exact (unK_one (P := P) (w := w) rv h1).op rfl
  case convert sr d x =>
    obtain ⟨v, rv, h1⟩ := ev_inv s.g s.t (show ev x tm _ = true from e)
    exact (convertK_one s.h rv hp h1).op rfl
  case makeInterface t x =>
    obtain ⟨h0, h1⟩ := grd_inv (show grd _ _ = true from e)
    obtain ⟨v, rv, h2⟩ := ev_inv s.g s.t h1
    exact One.op (K := fun v => K v ds h) ⟨_, _, makeInterface_run h0 _, .ifc t v _ rv, h2⟩ rfl
  case makeFunc f x y =>
    obtain ⟨v, rv, h1⟩ := evs_inv s.g s.t (show evs x.toList tm _ = true from e)
    obtain ⟨u, ru, h2⟩ := evs_inv s.g s.t h1
    refine One.op (s := Instr.makeFunc f (x.map a.eval) (y.map a.eval)) (K := fun v => K v ds h) ⟨_, .func f (x.map a.eval) (y.map a.eval), by simp [Instr.makeFunc], ?_, h2⟩ rfl
    have e1 := map_arr a.eval x
    have e2 := map_arr a.eval y
    rw [e1, e2]
    exact .fn f _ _ _ _ rv ru
  case slice t x lo hi mx =>
    obtain ⟨v, rv, h1⟩ := ev_inv s.g s.t (show ev x tm _ = true from e)
    obtain ⟨l, rl, h2⟩ := optV_rel s.g s.t h1
    obtain ⟨hh, rh, h3⟩ := optV_rel s.g s.t h2
    obtain ⟨mm, rm, h4⟩ := optV_rel s.g s.t h3
    exact (sliceK_one (P := P) (w := w) rv rl rh rm h4).op rfl
  case fieldAddr t x f =>
    obtain ⟨v, rv, h1⟩ := ev_inv s.g s.t (show ev x tm _ = true from e)
    exact (fieldAddrK_one (P := P) (w := w) rv h1).op rfl
  case field t x f =>
    obtain ⟨v, rv, h1⟩ := ev_inv s.g s.t (show ev x tm _ = true from e)
    exact (fieldK_one (P := P) (w := w) rv h1).op rfl
  case indexAddr t x i =>
    obtain ⟨v, rv, h1⟩ := ev_inv s.g s.t (show ev x tm _ = true from e)
    obtain ⟨u, ru, h2⟩ := ev_inv s.g s.t h1
    exact (indexAddrK_one (P := P) (w := w) rv ru h2).op rfl
  case index t x i =>
    obtain ⟨v, rv, h1⟩ := ev_inv s.g s.t (show ev x tm _ = true from e)
    obtain ⟨u, ru, h2⟩ := ev_inv s.g s.t h1
    exact (indexK_one (P := P) (w := w) rv ru h2).op rfl
  case lookup t x k ok =>
    obtain ⟨v, rv, h1⟩ := ev_inv s.g s.t (show ev x tm _ = true from e)
    obtain ⟨u, ru, h2⟩ := ev_inv s.g s.t h1
    exact (lookupK_one s.h rv ru h2).op rfl
  case entry x =>
    obtain ⟨v, rv, h1⟩ := ev_inv s.g s.t (show ev x tm _ = true from e)
    exact (entryK_one s.h rv h1).op rfl
  case extract x i =>
    obtain ⟨v, rv, h1⟩ := ev_inv s.g s.t (show ev x tm _ = true from e)
    exact (extractK_one (P := P) (w := w) rv h1).op rfl
  case call c =>
    obtain ⟨callee, args, ts⟩ := c
    cases callee with
    | value f => cases hp
    | invoke r n => cases hp
    | builtin b =>
      obtain ⟨vs, rvs, h1⟩ := evs_inv s.g s.t (show evs args.toList tm _ = true from e)
      have harr := map_arr a.eval args
      generalize args.toList.map a.eval = l at rvs harr
      have t0 : ∀ t, ts.toList[0]? = some t → ts[0]? = some t := fun t h => by rw [← h]; exact (Array.getElem?_toList).symm
      cases b <;> first | (cases hp; done) | skip
      case len =>
        obtain ⟨t, ht, h2⟩ := ty1_inv (show ty1 ts.toList _ = true from h1)
        obtain ⟨v, rfl, h3⟩ := fst1_inv h2
        cases rvs with
        | cons _ v' _ _ rv tl => cases tl; exact (lenK_one s.h rv (t0 t ht) ty h3).op (by simp [execOp, resolve, invoke, builtin, harr])
      case cap =>
        obtain ⟨t, ht, h2⟩ := ty1_inv (show ty1 ts.toList _ = true from h1)
        obtain ⟨v, rfl, h3⟩ := fst1_inv h2
        cases rvs with
        | cons _ v' _ _ rv tl => cases tl; exact (capK_one (P := P) (w := w) rv (t0 t ht) ty h3).op (by simp [execOp, resolve, invoke, builtin, harr])
      case max =>
        cases rvs with
        | nil => cases h1
        | cons x x' l l' rx rl =>
          obtain ⟨k, n, rfl, h2⟩ := onInt_inv (show onInt x _ = true from h1)
          cases rx
          obtain ⟨v, v', hr, rv, hK⟩ := foldM_one (P := P) (w := w) true rl h2
          have hm := max_run (mx := true) (ts := ts) (ty := ty) hr
          simp only [if_true] at hm
          exact One.op (K := fun v => K v ds h) ⟨v, v', hm, rv, hK⟩ (by simp [execOp, resolve, invoke, builtin, harr])
      case min =>
        cases rvs with
        | nil => cases h1
        | cons x x' l l' rx rl =>
          obtain ⟨k, n, rfl, h2⟩ := onInt_inv (show onInt x _ = true from h1)
          cases rx
          obtain ⟨v, v', hr, rv, hK⟩ := foldM_one (P := P) (w := w) false rl h2
          have hm := max_run (mx := false) (ts := ts) (ty := ty) hr
          simp only [Bool.false_eq_true, if_false] at hm
          exact One.op (K := fun v => K v ds h) ⟨v, v', hm, rv, hK⟩ (by simp [execOp, resolve, invoke, builtin, harr])
end
end Go.Ev
namespace Go.Ev
noncomputable section

/-- what is asked of a program once for all -/
structure Good (P : Program) : Prop where
  fields : Fields P
  names : ∀ (f : Nat) fn, P.funcs[f]? = some fn → (fn.name == "runtime.NumGoroutine") = false
  mixed : P.follows .mixedOrders = true

/-- a call comes back -/
def Ret (G : Fr) (m : M) (h : Hp) (K : V → Hp → Bool) : Ending → World → Prop
  | .returned v', w' => ∃ v h' m', Ext m h m' h' ∧ VRel m' v v' ∧ HRel G m' h' w' ∧ K v h' = true
  | _, _ => False
def HasBody (P : Program) (f : FuncId) : Prop := ∃ fn c, P.funcs[f]? = some fn ∧ fn.body = some c
/-- the evaluator's calls are the model's -/
def CallOk (P : Program) (cf : CallF) : Prop := ∀ f args h K, cf f args h K = true → HasBody P f ∧
  ∀ G m w (args' : List Value), HRel G m h w → GRel m → LRel m args args' → Calls P f args'.toArray w (Ret G m h K)

theorem calleeK_inv {x : V} {args : List V} {K : FuncId → List V → Bool} (h : calleeK x args K = true) : ∃ f first cap, x = .fn (.func f) first cap ∧ K f (first ++ (args ++ cap)) = true := by
  obtain ⟨fn, first, cap, rfl, h1⟩ := onFn_inv (show onFn x (calleeF args K) = true from h)
  cases fn with
  | func f => exact ⟨f, first, cap, rfl, catK_inv (catK_inv (show catK cap args (fun l => catK l first (K f)) = true from h1))⟩
  | _ => cases h1

def OperPost (G : Fr) (m : M) (h : Hp) (a : Act) (o : Oper) (K : Ko) (next : Act → World → Prop) : Prop :=
  ∀ v v' ds' d' h' w' m', Ext m h m' h' → VRel m' v v' → DRel m' ds' d' → HRel G m' h' w' → K v ds' h' = true → next (({ a with defers := d' } : Act).put o.dst v') w'
theorem OperPost.many {P : Program} {G : Fr} {m : M} {nt : Nat} {tm : Tm} {ds : List Dfr} {h : Hp} {a : Act} {w : World} (s : SRel G m nt tm ds h a w) {o : Oper} {K : Ko} {next : Act → World → Prop} {Q : Exit → Act → World → Prop}
    (hn : OperPost G m h a o K next) {sm : Sem Value} (hm : Many P G m h w sm (fun v h => K v ds h)) (he : execOp a.eval o = do pure (Next.value (← sm))) : o.wp P a w next Q := by
  obtain ⟨v, v', h', w', m', hr, x1, rv, r', hK⟩ := hm
  unfold Oper.wp
  rw [he, run_v hr]
  exact hn v v' ds a.defers h' w' m' x1 rv (s.d.mono x1.le) r' hK
theorem OperPost.unit {P : Program} {G : Fr} {m : M} {nt : Nat} {tm : Tm} {ds : List Dfr} {h : Hp} {a : Act} {w : World} (s : SRel G m nt tm ds h a w) {o : Oper} {K : Ko} {next : Act → World → Prop} {Q : Exit → Act → World → Prop}
    (hn : OperPost G m h a o K next) {sm : Sem Unit} (hm : ∃ h' w', sm.run P w = .ok () w' ∧ Ext m h m h' ∧ HRel G m h' w' ∧ K nilT ds h' = true) (he : execOp a.eval o = do sm; pure Next.skip) : o.wp P a w next Q := by
  obtain ⟨h', w', hr, x1, r', hK⟩ := hm
  unfold Oper.wp
  have : (execOp a.eval o).run P w = .ok .skip w' := by rw [he]; simp [hr]
  rw [this]
  exact hn nilT undef ds a.defers h' w' m x1 (VRel.tup [] [] .nil) s.d r' hK
set_option maxHeartbeats 4000000 in
theorem oper_wp {P : Program} (gd : Good P) {cf : CallF} (hcf : CallOk P cf) {G : Fr} {m : M} {nt : Nat} {tm : Tm} {ds : List Dfr} {h : Hp} {a : Act} {w : World} (s : SRel G m nt tm ds h a w) {o : Oper} {K : Ko}
    (e : operK cf o.op P tm ds h K = true) {next : Act → World → Prop} {Q : Exit → Act → World → Prop} (hn : OperPost G m h a o K next) : o.wp P a w next Q := by
  by_cases hp : pureOp P o.op = true
  · obtain ⟨v, v', hr, rv, hK⟩ := oper_one gd.fields s hp e
    unfold Oper.wp
    rw [hr]
    exact hn v v' ds a.defers h w m (Ext.refl m h) rv s.d s.h hK
  · obtain ⟨dst, op, ty, pos, after, guard⟩ := o
    cases op <;> first | (exact absurd rfl hp) | (cases e; done) | skip
    case alloc t => exact hn.many s (allocK_many s.h (show allocK P t h _ = true from e)) rfl
    case box t x =>
      obtain ⟨v, rv, h1⟩ := ev_inv s.g s.t (show ev x tm _ = true from e)
      exact hn.many s (boxK_many s.h rv t h1) rfl
    case buildSlice t len ps =>
      obtain ⟨vs, rvs, h1⟩ := partsV_inv s.g s.t (show partsV ps.toList tm _ = true from e)
      exact hn.many s (buildSliceK_many (P := P) s.h (ps' := ps.map fun (i, x) => (i, a.eval x)) (by simpa using rvs) h1) rfl
    case insert t x k y =>
      obtain ⟨v, rv, h1⟩ := ev_inv s.g s.t (show ev x tm _ = true from e)
      obtain ⟨u, ru, h2⟩ := ev_inv s.g s.t h1
      obtain ⟨z, rz, h3⟩ := ev_inv s.g s.t h2
      exact hn.unit s (mapUpdateK_run (P := P) s.h rv ru rz h3) rfl
    case mapUpdate t x k y =>
      obtain ⟨v, rv, h1⟩ := ev_inv s.g s.t (show ev x tm _ = true from e)
      obtain ⟨u, ru, h2⟩ := ev_inv s.g s.t h1
      obtain ⟨z, rz, h3⟩ := ev_inv s.g s.t h2
      exact hn.unit s (mapUpdateK_run (P := P) s.h rv ru rz h3) rfl
    case store t p x =>
      obtain ⟨v, rv, h1⟩ := ev_inv s.g s.t (show ev p tm _ = true from e)
      obtain ⟨u, ru, h2⟩ := ev_inv s.g s.t h1
      exact hn.unit s (storeK_run (P := P) s.h rv ru h2) rfl
    case convert sr d x =>
      obtain ⟨v, rv, h1⟩ := ev_inv s.g s.t (show ev x tm _ = true from e)
      exact hn.many s (convertK_many s.h rv h1) rfl
    case makeMap t r =>
      cases r with
      | none =>
        obtain ⟨m', h', x1, rv, r', hK⟩ := s.h.map_new (show newK h (.map 0 [] []) (fun b h => K (.mp b) ds h) = true from e)
        exact hn.many s ⟨_, _, h', _, m', by simp [Instr.makeMap], x1, rv, r', hK⟩ rfl
      | some x =>
        obtain ⟨h0, h1⟩ := grd_inv (show grd _ _ = true from e)
        obtain ⟨v, rv, h2⟩ := ev_inv s.g s.t h1
        obtain ⟨k, n, rfl, h3⟩ := onInt_inv h2
        obtain ⟨m', h', x1, rm, r', hK⟩ := s.h.map_new (show newK h (.map 0 [] []) (fun b h => K (.mp b) ds h) = true from h3)
        refine hn.many s ⟨_, _, h', _, m', ?_, x1, rm, r', hK⟩ rfl
        generalize hc : a.eval x = cv at rv
        cases rv
        unfold mapTy at h0
        split at h0
        · rename_i kt el hu
          simp [Instr.makeMap, hc, run_underlying hu, asInt, asIntOf]
        · cases h0
    case makeSlice t l c =>
      obtain ⟨v, rv, h1⟩ := ev_inv s.g s.t (show ev l tm _ = true from e)
      obtain ⟨u, ru, h2⟩ := ev_inv s.g s.t h1
      exact hn.many s (makeSliceK_many s.h rv ru h2) rfl
    case range t x =>
      obtain ⟨v, rv, h1⟩ := ev_inv s.g s.t (show ev x tm _ = true from e)
      exact hn.many s (rangeK_many s.h rv h1) rfl
    case next x st =>
      obtain ⟨v, rv, h1⟩ := ev_inv s.g s.t (show ev x tm _ = true from e)
      exact hn.many s (nextK_many s.h rv ty h1) rfl
    case call c =>
      obtain ⟨callee, args, ts⟩ := c
      have harr := map_arr a.eval args
      cases callee with
      | invoke r n => cases e
      | value f =>
        obtain ⟨x, rx, h1⟩ := ev_inv s.g s.t (show ev f tm _ = true from e)
        obtain ⟨vs, rvs, h2⟩ := evs_inv s.g s.t h1
        obtain ⟨fi, first, cap, rfl, h3⟩ := calleeK_inv h2
        obtain ⟨⟨fn, c, hf, hb⟩, h4⟩ := hcf _ _ _ _ h3
        generalize hc : a.eval f = cv at rx
        generalize args.toList.map a.eval = l at rvs harr
        cases rx with
        | fn _ _ _ first' cap' r1 r2 =>
          have h5 := h4 G m w _ s.h s.g (LRel.append' (LRel.append' r2 rvs) r1)
          have hrun : (execOp a.eval ⟨dst, .call ⟨.value f, args, ts⟩, ty, pos, after, guard⟩).run P w = .ok (.enter fi (first' ++ (l ++ cap')).toArray) w := by
            have hnm : ¬ fn.name = "runtime.NumGoroutine" := by simpa using gd.names fi fn hf
            simp [execOp, resolve, invoke, Deferred.ofValue, hc, harr, callFunc, hf, hb, hnm]
          unfold Oper.wp
          rw [hrun]
          refine Calls.mono h5 fun en w' hr => ?_
          cases en with
          | returned v' =>
            obtain ⟨v, h', m', x1, rv, r', hK⟩ := hr
            exact hn v v' ds a.defers h' w' m' x1 rv (s.d.mono x1.le) r' hK
          | panicked _ => exact hr.elim
          | outgrown => exact hr.elim
      | builtin b =>
        obtain ⟨vs, rvs, h1⟩ := evs_inv s.g s.t (show evs args.toList tm _ = true from e)
        generalize args.toList.map a.eval = l at rvs harr
        have t0 : ∀ t, ts.toList[0]? = some t → ts[0]? = some t := fun t h => by rw [← h]; exact (Array.getElem?_toList).symm
        cases b <;> first | (exact absurd rfl hp) | (cases h1; done) | skip
        case append =>
          obtain ⟨x, y, rfl, h2⟩ := fst2_inv (show fst2 vs _ = true from h1)
          cases rvs with
          | cons _ x' _ _ rx tl =>
            cases tl with
            | cons _ y' _ _ ry tl => cases tl; exact hn.many s (appendK_many s.h rx ry ty h2) (by simp [execOp, resolve, invoke, builtin, harr])
        case clear =>
          obtain ⟨t, ht, h2⟩ := ty1_inv (show ty1 ts.toList _ = true from h1)
          obtain ⟨x, rfl, h3⟩ := fst1_inv h2
          cases rvs with
          | cons _ x' _ _ rx tl => cases tl; exact hn.many s (clearK_many s.h rx (t0 t ht) ty h3) (by simp [execOp, resolve, invoke, builtin, harr])
        case copy =>
          obtain ⟨t, ht, h2⟩ := ty1_inv (show ty1 ts.toList _ = true from h1)
          obtain ⟨x, y, rfl, h3⟩ := fst2_inv h2
          cases rvs with
          | cons _ x' _ _ rx tl =>
            cases tl with
            | cons _ y' _ _ ry tl => cases tl; exact hn.many s (copyK_many s.h rx ry (t0 t ht) ty h3) (by simp [execOp, resolve, invoke, builtin, harr])
        case delete =>
          obtain ⟨t, ht, h2⟩ := ty1_inv (show ty1 ts.toList _ = true from h1)
          obtain ⟨x, y, rfl, h3⟩ := fst2_inv h2
          cases rvs with
          | cons _ x' _ _ rx tl =>
            cases tl with
            | cons _ y' _ _ ry tl => cases tl; exact hn.many s (deleteK_many s.h rx ry (t0 t ht) ty h3) (by simp [execOp, resolve, invoke, builtin, harr])
    case defer c =>
      obtain ⟨callee, args, ts⟩ := c
      have harr := map_arr a.eval args
      cases callee with
      | invoke r n => cases e
      | builtin b => cases e
      | value f =>
        obtain ⟨x, rx, h1⟩ := ev_inv s.g s.t (show ev f tm _ = true from e)
        obtain ⟨vs, rvs, h2⟩ := evs_inv s.g s.t h1
        obtain ⟨fi, first, cap, rfl, h3⟩ := calleeK_inv h2
        generalize hc : a.eval f = cv at rx
        generalize args.toList.map a.eval = l at rvs harr
        cases rx with
        | fn _ _ _ first' cap' r1 r2 =>
          have hrun : (execOp a.eval ⟨dst, .defer ⟨.value f, args, ts⟩, ty, pos, after, guard⟩).run P w = .ok (.defer { target := .fn (.func fi) cap'.toArray, args := (first' ++ l).toArray }) w := by
            simp [execOp, resolve, Deferred.ofValue, hc, harr]
          unfold Oper.wp
          rw [hrun]
          refine hn nilT undef _ _ h w m (Ext.refl m h) (VRel.tup [] [] .nil) (.cons _ _ _ _ ⟨cap'.toArray, rfl, ?_⟩ s.d) s.h h3
          have := LRel.append' (LRel.append' r2 rvs) r1
          simpa using this
end
end Go.Ev
namespace Go.Ev
noncomputable section

abbrev Kr := Tm → List Dfr → Hp → Bool
abbrev OpsM := Tm → List Dfr → Hp → Kr → Bool
theorem TRel.put {m : M} {nt : Nat} {tm : Tm} {a : Act} (r : TRel m nt tm a) {d : Nat} (hd : d < nt) {v : V} {v' : Value} (rv : VRel m v v') : TRel m nt (T3.set tm d (some v)) (a.put (some d) v') := by
  refine ⟨by simp [Act.put, r.size], r.le, fun t u ht hu => ?_⟩
  have hle := r.le
  by_cases h : d = t
  · subst h
    rw [T3.at_set_same] at hu
    cases hu
    exact ⟨v', by simp [Act.put, r.size, hd], rv⟩
  · rw [T3.at_set_ne _ _ _ _ (by omega) ht h] at hu
    obtain ⟨u', h1, h2⟩ := r.at_ t u ht hu
    exact ⟨u', by simp only [Act.put]; rw [Array.getElem?_setIfInBounds_ne h]; exact h1, h2⟩
theorem TRel.defers {m : M} {nt : Nat} {tm : Tm} {a : Act} (r : TRel m nt tm a) (d : List Deferred) : TRel m nt tm { a with defers := d } := ⟨r.size, r.le, r.at_⟩
/-- an operation's result is laid down -/
def putK (nt : Nat) (dst : Option Tmp) (tm : Tm) (v : V) (K : Tm → Bool) : Bool := Option.rec (motive := fun _ => Bool) (K tm) (fun d => grd (Nat.blt d nt) (T3.put d (some v) tm K)) dst
theorem putK_inv {m : M} {nt : Nat} {tm : Tm} {a : Act} (r : TRel m nt tm a) {dst : Option Tmp} {v : V} {v' : Value} (rv : VRel m v v') {K : Tm → Bool} (h : putK nt dst tm v K = true) :
    ∃ tm', TRel m nt tm' (a.put dst v') ∧ K tm' = true := by
  cases dst with
  | none => exact ⟨tm, r, h⟩
  | some d =>
    obtain ⟨h1, h2⟩ := grd_inv (show grd (Nat.blt d nt) (T3.put d (some v) tm K) = true from h)
    rw [T3.put_eq] at h2
    exact ⟨_, r.put (Nat.of_blt h1) rv, h2⟩

/-- what a guard's operation came to -/
def isB (want : Bool) (v : V) (y n : Bool) : Bool := V.rec (motive_1 := fun _ => Bool) (motive_2 := fun _ => Bool) (fun _ _ => n) (fun b => Bool.rec (motive := fun _ => Bool) (alt want n y) (alt want y n) b) (fun _ => n) (fun _ _ => n) n (fun _ _ _ _ => n) n n (fun _ => n) n (fun _ _ _ _ _ => n) n (fun _ _ _ => n) n (fun _ _ => n) (fun _ _ => n) false (fun _ _ _ _ => false) v
theorem isB_inv {want : Bool} {m : M} {v : V} {v' : Value} (r : VRel m v v') {y n : Bool} (h : isB want v y n = true) : (v' = .bool want ∧ y = true) ∨ (v' ≠ .bool want ∧ n = true) := by
  cases r
  case bool b => cases b <;> cases want <;> first | exact .inl ⟨rfl, h⟩ | exact .inr ⟨by simp, h⟩
  all_goals exact .inr ⟨by simp, h⟩
def guardD (want : Bool) (tm : Tm) (y n : Bool) (d : Tmp) : Bool := grd (Nat.blt d 256) (T3.get d tm fun o => optK o fun v => isB want v y n)
def guardO (want : Bool) (tm : Tm) (y n : Bool) (g : Oper) : Bool := Oper.rec (motive := fun _ => Bool) (fun dst _ _ _ _ _ => Option.rec (motive := fun _ => Bool) n (guardD want tm y n) dst) g
def guardK (ops : List Oper) (tm : Tm) (y n : Bool) (g : Nat × Bool) : Bool := Prod.rec (motive := fun _ => Bool) (fun j want => Option.rec (motive := fun _ => Bool) n (guardO want tm y n) (ops[j]?)) g
theorem guardK_inv {m : M} {nt : Nat} {tm : Tm} {a : Act} (r : TRel m nt tm a) {ops : Array Oper} {y n : Bool} {g : Nat × Bool} (h : guardK ops.toList tm y n g = true) :
    ((yielded ops a.tmps g.1 == some g.2) = true ∧ y = true) ∨ ((yielded ops a.tmps g.1 == some g.2) = false ∧ n = true) := by
  obtain ⟨j, want⟩ := g
  have e1 : ops.toList[j]? = ops[j]? := Array.getElem?_toList
  have h : Option.rec (motive := fun _ => Bool) n (guardO want tm y n) (ops.toList[j]?) = true := h
  rw [e1] at h
  unfold yielded
  cases ho : ops[j]? with
  | none => rw [ho] at h; exact .inr ⟨by simp, h⟩
  | some o =>
    rw [ho] at h
    obtain ⟨dst, op, ty, pos, after, guard⟩ := o
    cases dst with
    | none => exact .inr ⟨by simp, h⟩
    | some d =>
      obtain ⟨h1, h2⟩ := grd_inv (show grd (Nat.blt d 256) _ = true from h)
      rw [T3.get_eq] at h2
      obtain ⟨v, hv, h3⟩ := optK_inv h2
      obtain ⟨v', hv', rv⟩ := r.at_ d v (Nat.of_blt h1) hv
      rcases isB_inv rv h3 with ⟨rfl, h4⟩ | ⟨h4, h5⟩
      · exact .inl ⟨by simp [hv'], h4⟩
      · refine .inr ⟨?_, h5⟩
        simp only [Option.bind_some, hv']
        cases v' <;> simp
        rintro rfl; exact h4 rfl

/-- one operation of a region, guarded perhaps, and what it makes laid down -/
def opStep (P : Program) (cf : CallF) (nt : Nat) (ops : List Oper) (o : Oper) (ih : OpsM) : OpsM := fun tm ds h K => Oper.rec (motive := fun _ => Bool) (fun dst op _ _ _ guard =>
  Option.rec (motive := fun _ => Bool) (operK cf op P tm ds h fun v ds h => putK nt dst tm v fun tm => ih tm ds h K) (guardK ops tm (operK cf op P tm ds h fun v ds h => putK nt dst tm v fun tm => ih tm ds h K) (putK nt dst tm nilT fun tm => ih tm ds h K)) guard) o
def opsK (P : Program) (cf : CallF) (nt : Nat) (ops : List Oper) (rest : List Oper) : OpsM := List.rec (motive := fun _ => OpsM) (fun tm ds h K => K tm ds h) (fun o _ ih => opStep P cf nt ops o ih) rest

/-- what follows is served by K -/
def NOk (G : Fr) (m : M) (h : Hp) (nt : Nat) (K : Kr) (next : Act → World → Prop) : Prop :=
  ∀ tm ds h' a w m', Ext m h m' h' → SRel G m' nt tm ds h' a w → K tm ds h' = true → next a w
theorem NOk.ext {G : Fr} {m m' : M} {h h' : Hp} {nt : Nat} {K : Kr} {next : Act → World → Prop} (n : NOk G m h nt K next) (x : Ext m h m' h') : NOk G m' h' nt K next :=
  fun tm ds h2 a w m2 x2 s e => n tm ds h2 a w m2 (x.trans x2) s e

theorem opRun {P : Program} (gd : Good P) {cf : CallF} (hcf : CallOk P cf) {nt : Nat} {G : Fr} {m : M} {tm : Tm} {ds : List Dfr} {h : Hp} {a : Act} {w : World} (s : SRel G m nt tm ds h a w) {o : Oper} {K : Kr}
    (e : operK cf o.op P tm ds h (fun v ds h => putK nt o.dst tm v fun tm => K tm ds h) = true) {next : Act → World → Prop} {Q : Exit → Act → World → Prop} (hn : NOk G m h nt K next) : o.wp P a w next Q := by
  refine oper_wp gd hcf s e fun v v' ds' d' h' w' m' x1 rv rd r' hK => ?_
  obtain ⟨tm', rt, hK⟩ := putK_inv (s.t.mono x1.le |>.defers d') rv hK
  exact hn tm' ds' h' _ w' m' x1 ⟨rt, by cases o.dst <;> exact rd, r', s.g.mono x1.le⟩ hK
theorem opSkip {nt : Nat} {G : Fr} {m : M} {tm : Tm} {ds : List Dfr} {h : Hp} {a : Act} {w : World} (s : SRel G m nt tm ds h a w) {dst : Option Tmp} {K : Kr}
    (e : putK nt dst tm nilT (fun tm => K tm ds h) = true) {next : Act → World → Prop} (hn : NOk G m h nt K next) : next (a.put dst undef) w := by
  obtain ⟨tm', rt, hK⟩ := putK_inv s.t (v' := undef) (VRel.tup [] [] .nil) e
  exact hn tm' ds h _ w m (Ext.refl m h) ⟨rt, by cases dst <;> exact s.d, s.h, s.g⟩ hK
theorem opStep_ok {P : Program} (gd : Good P) {cf : CallF} (hcf : CallOk P cf) {nt : Nat} {ops : Array Oper} {G : Fr} {m : M} {tm : Tm} {ds : List Dfr} {h : Hp} {a : Act} {w : World} (s : SRel G m nt tm ds h a w) {o : Oper} {ih : OpsM} {K : Kr}
    (e : opStep P cf nt ops.toList o ih tm ds h K = true) {next : Act → World → Prop} {Q : Exit → Act → World → Prop} (hn : NOk G m h nt (fun tm ds h => ih tm ds h K) next) :
    if Region.wanted o (yielded ops a.tmps) then o.wp P a w next Q ∨ (o.asks P a w ∧ LetsOut Q) else next (a.put o.dst undef) w := by
  obtain ⟨dst, op, ty, pos, after, guard⟩ := o
  cases guard with
  | none =>
    rw [if_pos (by rfl)]
    exact .inl (opRun gd hcf s (o := ⟨dst, op, ty, pos, after, none⟩) (K := fun tm ds h => ih tm ds h K) e hn)
  | some g =>
    have e : guardK ops.toList tm (operK cf op P tm ds h fun v ds h => putK nt dst tm v fun tm => ih tm ds h K) (putK nt dst tm nilT fun tm => ih tm ds h K) g = true := e
    rcases guardK_inv s.t e with ⟨h1, h2⟩ | ⟨h1, h2⟩
    · have hw : Region.wanted ⟨dst, op, ty, pos, after, some g⟩ (yielded ops a.tmps) = true := h1
      rw [if_pos hw]
      exact .inl (opRun gd hcf s (o := ⟨dst, op, ty, pos, after, some g⟩) (K := fun tm ds h => ih tm ds h K) h2 hn)
    · have hw : ¬ Region.wanted ⟨dst, op, ty, pos, after, some g⟩ (yielded ops a.tmps) = true := by
        have : Region.wanted ⟨dst, op, ty, pos, after, some g⟩ (yielded ops a.tmps) = false := h1
        rw [this]; simp
      rw [if_neg hw]
      exact opSkip s (K := fun tm ds h => ih tm ds h K) h2 hn
theorem opsK_list {P : Program} (gd : Good P) {cf : CallF} (hcf : CallOk P cf) {nt : Nat} {ops : Array Oper} {G : Fr} {Q : Exit → Act → World → Prop} : ∀ {rest : List Oper} {m : M} {tm : Tm} {ds : List Dfr} {h : Hp} {a : Act} {w : World},
    SRel G m nt tm ds h a w → ∀ {K : Kr}, opsK P cf nt ops.toList rest tm ds h K = true → NOk G m h nt K (Q .normal) → wpList P ops Q rest a w
  | [], m, tm, ds, h, a, w, s, K, e, hn => hn tm ds h a w m (Ext.refl m h) s e
  | o :: rest, m, tm, ds, h, a, w, s, K, e, hn => by
    have e : opStep P cf nt ops.toList o (opsK P cf nt ops.toList rest) tm ds h K = true := e
    simp only [wpList]
    refine opStep_ok gd hcf s e fun tm' ds' h' a' w' m' x1 s' e' => ?_
    exact opsK_list gd hcf s' e' (hn.ext x1)
end
end Go.Ev
