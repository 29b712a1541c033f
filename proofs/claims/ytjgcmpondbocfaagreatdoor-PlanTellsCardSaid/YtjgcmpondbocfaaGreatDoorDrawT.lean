/- A region whose order is open, whatever its operations do: quiet ones where they may stand, the others in each order that the edges leave. No condition. -/
import Derived.Test.YtjgcmpondbocfaaGreatDoorDraw
namespace Go.Proofs.YtjgcmpondbocfaaGreatDoor
open Go.RowKit

/-- What comes before an operation by its own edges. -/
def edgesB (o : Oper) : List Nat := (o.after.toList.filter (Region.binds .any)).map (·.on)
/-- What comes before, near or far. -/
def addNew (acc js : List Nat) : List Nat := js.foldl (fun a j => match a.any (Nat.beq j) with
  | true => a
  | false => j :: a) acc
def ancB (o : List Oper) (js : List Nat) : List Nat := (List.range o.length).reverse.foldl (fun acc i => match acc.any (Nat.beq i) with
  | true => match o[i]? with
    | none => acc
    | some x => addNew acc (edgesB x)
  | false => acc) (addNew [] js)
theorem mem_addNew {js acc : List Nat} {q : Nat} (h : q ∈ addNew acc js) : q ∈ acc ∨ q ∈ js := by
  unfold addNew at h
  induction js generalizing acc with
  | nil => exact .inl h
  | cons j js ih =>
    rw [List.foldl_cons] at h
    rcases ih h with h | h
    · split at h
      · exact .inl h
      · rcases List.mem_cons.1 h with rfl | h
        · exact .inr List.mem_cons_self
        · exact .inl h
    · exact .inr (List.mem_cons_of_mem _ h)
theorem mem_ancB {o : List Oper} {js : List Nat} {p : Nat → Prop} (h0 : ∀ j, j ∈ js → p j) (hs : ∀ (i : Nat) (x : Oper), p i → o[i]? = some x → ∀ j, j ∈ edgesB x → p j) : ∀ q, q ∈ ancB o js → p q := by
  have key : ∀ (is acc : List Nat), (∀ q, q ∈ acc → p q) → ∀ q, q ∈ is.foldl (fun acc i => match acc.any (Nat.beq i) with
      | true => match o[i]? with
        | none => acc
        | some x => addNew acc (edgesB x)
      | false => acc) acc → p q := by
    intro is
    induction is with
    | nil => intro acc ha q hq; exact ha q hq
    | cons i is ih =>
      intro acc ha q hq
      rw [List.foldl_cons] at hq
      refine ih _ (fun r hr => ?_) q hq
      split at hr
      · rename_i hb
        obtain ⟨z, hz, hbz⟩ := List.any_eq_true.1 hb
        have := Nat.eq_of_beq_eq_true hbz
        subst this
        split at hr
        · exact ha r hr
        · rename_i x hx
          rcases mem_addNew hr with hr | hr
          · exact ha r hr
          · exact hs _ x (ha _ hz) hx r hr
      · exact ha r hr
  intro q hq
  exact key _ _ (fun r hr => (mem_addNew hr).elim (fun h => by simp at h) (h0 r)) q hq
abbrev Pins := List (Nat × (World → Prop))
def keepP (ks : List Nat) : Pins → Pins
  | [] => []
  | p :: r => match ks.any (Nat.beq p.1) with
    | true => p :: keepP ks r
    | false => keepP ks r
def HoldAll : Pins → World → Prop
  | [], _ => True
  | p :: r, w => p.2 w ∧ HoldAll r w
theorem HoldAll.mem : ∀ {ps : Pins} {w : World}, HoldAll ps w → ∀ p, p ∈ ps → p.2 w
  | q :: r, w, h, p, hp => by
    rcases List.mem_cons.1 hp with rfl | hp
    · exact h.1
    · exact HoldAll.mem h.2 p hp
theorem mem_keepP {ks : List Nat} : ∀ {ps : Pins} {p : Nat × (World → Prop)}, p ∈ ps → ks.any (Nat.beq p.1) = true → p ∈ keepP ks ps
  | q :: r, p, hp, hk => by
    rw [keepP]
    rcases List.mem_cons.1 hp with rfl | hp
    · rw [hk]; exact List.mem_cons_self
    · have := mem_keepP hp hk
      split
      · exact List.mem_cons_of_mem _ this
      · exact this
def inDone (done : Done) (j : Nat) : Bool := done.any fun x => Nat.beq x.1 j
def isEff (eff : List Nat) (i : Nat) : Bool := eff.any (Nat.beq i)
/-- Each quiet operation is done, or waits for one that is not. -/
def closedB (o : List Oper) (eff : List Nat) (done : Done) : Bool := (List.range o.length).all fun i => inDone done i || isEff eff i || match o[i]? with
  | none => true
  | some x => (edgesB x).any fun j => !inDone done j
/-- The others that may come next. -/
def enabledB (o : List Oper) (eff : List Nat) (done : Done) : List Nat := eff.filter fun i => !inDone done i && match o[i]? with
  | none => false
  | some x => (edgesB x).all (inDone done)

/-- What an operation that may turn the world comes to: R. -/
def Eff (P : Program) (N : Nat) (D : List Deferred) (l : Env) (w : World) (o : Oper) (R : Value → World → Prop) : Prop :=
  ∀ T : Array Value, T.size = N → Slots T l → (∃ v w', R v w' ∧ (execOp (Act.eval ⟨T, D⟩) o).run P w = .ok (.value v) w') ∨ (∃ v w', R v w' ∧ (execOp (Act.eval ⟨T, D⟩) o).run P w = .ok .skip w' ∧ o.dst = none) ∨
    ∃ f args, (execOp (Act.eval ⟨T, D⟩) o).run P w = .ok (.enter f args) w ∧ Calls P f args w fun e w' => ∃ v, e = .returned v ∧ R v w'
/-- Its guard seen to. -/
def OpC (P : Program) (ops : Array Oper) (N : Nat) (D : List Deferred) (l : Env) (w : World) (o : Oper) (R : Value → World → Prop) : Prop :=
  Eff P N D l w o R ∧ ∀ T : Array Value, T.size = N → Slots T l → Region.wanted o (yielded ops T) = true

section
variable (P : Program) (ops : Array Oper) (N : Nat) (D : List Deferred) (l : Env) (S : Nat → Prop) (o : List Oper) (eff : List Nat) (K : Env → World → Prop)
inductive DrawT : Done → World → Pins → Prop
  | fin {done : Done} {cur : World} {pins : Pins} (hd : (List.range o.length).all (inDone done) = true) (hK : K (doneEnv done ++ l) cur) : DrawT done cur pins
  | quiet {done : Done} {cur : World} {pins : Pins} (n : Nat) {x : Oper} {v : Value} (hx : o[n]? = some x) (hq : (isEff eff n || inDone done n) = false) (h : ∀ w1, Chg S cur w1 → OpOk P ops N D (doneEnv (leans x done) ++ l) w1 x v)
      (k : DrawT ((n, x.dst, v) :: done) cur pins) : DrawT done cur pins
  | pin {done : Done} {cur : World} {pins : Pins} (n : Nat) {x : Oper} {v : Value} {φ : World → Prop} (hx : o[n]? = some x) (hq : (isEff eff n || inDone done n) = false) (h : ∀ w1, φ w1 → OpOk P ops N D (doneEnv (leans x done) ++ l) w1 x v) (h0 : φ cur)
      (k : DrawT ((n, x.dst, v) :: done) cur ((n, φ) :: pins)) : DrawT done cur pins
  | step {done : Done} {cur : World} {pins : Pins} (X : Nat → Oper) (R : Nat → Value → World → Prop) (ks : Nat → List Nat) (hc : closedB o eff done = true) (hne : (enabledB o eff done).isEmpty = false)
      (h : ∀ n, n ∈ enabledB o eff done → o[n]? = some (X n) ∧ pins.all (fun j => (ancB o (edgesB (X n))).any (Nat.beq j.1) || (ks n).any (Nat.beq j.1)) = true ∧ OpC P ops N D (doneEnv (leans (X n) done) ++ l) cur (X n) (R n) ∧ ∀ v w', R n v w' → Chg S cur w' ∧ HoldAll (keepP (ks n) pins) w')
      (k : ∀ n, n ∈ enabledB o eff done → ∀ v w', R n v w' → DrawT ((n, (X n).dst, v) :: done) w' (keepP (ks n) pins)) : DrawT done cur pins
end

section
variable {P : Program} {N : Nat} {D : List Deferred} {l : Env} {w : World} {Q : Exit → Act → World → Prop} {S : Nat → Prop} {o : List Oper} {eff : List Nat} {K : Env → World → Prop}

/-- Of a node: what stands of it while some of it is carried out. -/
structure Held (P : Program) (N : Nat) (D : List Deferred) (l : Env) (S : Nat → Prop) (o : List Oper) (eff : List Nat) (listed : Array Bool) (T : Array Value) (done : Done) (cur : World) (pins : Pins) : Prop where
  dst : ∀ i d v, (i, d, v) ∈ done → ∃ x, o[i]? = some x ∧ x.dst = d
  once : ∀ i d v d' v', (i, d, v) ∈ done → (i, d', v') ∈ done → d = d' ∧ v = v'
  all : ∀ i, listed[i]? = some true → inDone done i = true
  vals : ∀ i k v, (i, some k, v) ∈ done → listed[i]? = some true → T.getD k undef = v
  effs : ∀ i, inDone done i = true → isEff eff i = true → listed[i]? = some true
  rest : ∀ i d v, (i, d, v) ∈ done → listed[i]? ≠ some true → ∃ x env, o[i]? = some x ∧ (∀ k u, look env k = some u → ∃ j, (j, some k, u) ∈ done ∧ j ∈ edgesB x) ∧
    ((∃ wb, Chg S wb cur ∧ ∀ w1, Chg S wb w1 → OpOk P o.toArray N D (env ++ l) w1 x v) ∨ ∃ φ, (i, φ) ∈ pins ∧ φ cur ∧ ∀ w1, φ w1 → OpOk P o.toArray N D (env ++ l) w1 x v)
  far : ∀ (i : Nat) (x : Oper), listed[i]? = some true → o[i]? = some x → ∀ j, j ∈ edgesB x → listed[j]? = some true

theorem inDone_iff {done : Done} {i : Nat} : inDone done i = true ↔ ∃ d v, (i, d, v) ∈ done := by
  unfold inDone
  rw [List.any_eq_true]
  constructor
  · rintro ⟨⟨j, d, v⟩, hm, hb⟩
    have := Nat.eq_of_beq_eq_true hb
    subst this
    exact ⟨d, v, hm⟩
  · rintro ⟨d, v, hm⟩
    exact ⟨_, hm, Nat.beq_refl i⟩
theorem leans_look {x : Oper} {done : Done} {k : Nat} {u : Value} (h : look (doneEnv (leans x done)) k = some u) : ∃ j, (j, some k, u) ∈ done ∧ j ∈ edgesB x := by
  obtain ⟨j, hj⟩ := look_doneEnv h
  obtain ⟨h1, e, he, hb, hej⟩ := mem_leans hj
  dsimp only at hej
  refine ⟨j, h1, ?_⟩
  unfold edgesB
  rw [List.mem_map]
  exact ⟨e, List.mem_filter.2 ⟨Array.mem_toList_iff.2 he, hb⟩, hej⟩
theorem mem_edgesB {x : Oper} {j : Nat} : j ∈ edgesB x ↔ ∃ e ∈ x.after, Region.binds .any e = true ∧ e.on = j := by
  unfold edgesB
  rw [List.mem_map]
  constructor
  · rintro ⟨e, he, rfl⟩
    rw [List.mem_filter] at he
    exact ⟨e, Array.mem_toList_iff.1 he.1, he.2, rfl⟩
  · rintro ⟨e, he, hb, rfl⟩
    exact ⟨e, List.mem_filter.2 ⟨Array.mem_toList_iff.2 he, hb⟩, rfl⟩

/-- One more quiet operation that is not carried out yet. -/
theorem Held.add {listed : Array Bool} {T : Array Value} {done : Done} {cur : World} {pins pins' : Pins} (H : Held P N D l S o eff listed T done cur pins) {n : Nat} {x : Oper} {v : Value} (hx : o[n]? = some x) (hq : (isEff eff n || inDone done n) = false) (hsub : ∀ i, i ∈ pins → i ∈ pins')
    (h : (∀ w1, Chg S cur w1 → OpOk P o.toArray N D (doneEnv (leans x done) ++ l) w1 x v) ∨ ∃ φ, (n, φ) ∈ pins' ∧ φ cur ∧ ∀ w1, φ w1 → OpOk P o.toArray N D (doneEnv (leans x done) ++ l) w1 x v) :
    Held P N D l S o eff listed T ((n, x.dst, v) :: done) cur pins' := by
  rw [Bool.or_eq_false_iff] at hq
  have hnd : ∀ d u, (n, d, u) ∉ done := fun d u hm => by
    have := inDone_iff.2 ⟨d, u, hm⟩
    rw [hq.2] at this; cases this
  have hnl : listed[n]? ≠ some true := fun hl => by
    have := H.all n hl
    rw [hq.2] at this; cases this
  refine ⟨?_, ?_, ?_, ?_, ?_, ?_, H.far⟩
  · intro i d u hm
    rcases List.mem_cons.1 hm with e | hm
    · simp only [Prod.mk.injEq] at e
      obtain ⟨rfl, rfl, rfl⟩ := e
      exact ⟨x, hx, rfl⟩
    · exact H.dst i d u hm
  · intro i d u d' u' hm hm'
    rcases List.mem_cons.1 hm with e | hm
    · simp only [Prod.mk.injEq] at e
      obtain ⟨rfl, rfl, rfl⟩ := e
      rcases List.mem_cons.1 hm' with e | hm'
      · simp only [Prod.mk.injEq] at e
        exact ⟨e.2.1.symm, e.2.2.symm⟩
      · exact absurd hm' (hnd _ _)
    · rename_i hm0
      rcases List.mem_cons.1 hm' with e | hm'
      · simp only [Prod.mk.injEq] at e
        obtain ⟨rfl, rfl, rfl⟩ := e
        exact absurd hm (hnd _ _)
      · exact H.once i d u d' u' hm hm'
  · intro i hi
    obtain ⟨d, u, hm⟩ := inDone_iff.1 (H.all i hi)
    exact inDone_iff.2 ⟨d, u, List.mem_cons_of_mem _ hm⟩
  · intro i k u hm hl
    rcases List.mem_cons.1 hm with e | hm
    · simp only [Prod.mk.injEq] at e
      obtain ⟨rfl, _, _⟩ := e
      exact absurd hl hnl
    · exact H.vals i k u hm hl
  · intro i hi he
    obtain ⟨d, u, hm⟩ := inDone_iff.1 hi
    rcases List.mem_cons.1 hm with e | hm
    · simp only [Prod.mk.injEq] at e
      obtain ⟨rfl, _, _⟩ := e
      rw [hq.1] at he; cases he
    · exact H.effs i (inDone_iff.2 ⟨d, u, hm⟩) he
  · intro i d u hm hl
    rcases List.mem_cons.1 hm with e | hm
    · simp only [Prod.mk.injEq] at e
      obtain ⟨rfl, rfl, rfl⟩ := e
      refine ⟨x, doneEnv (leans x done), hx, fun k u hk => ?_, ?_⟩
      · obtain ⟨j, h1, h2⟩ := leans_look hk
        exact ⟨j, List.mem_cons_of_mem _ h1, h2⟩
      · rcases h with h | h
        · exact .inl ⟨cur, Chg.refl _ _, h⟩
        · exact .inr h
    · obtain ⟨y, env, h1, h2, h3⟩ := H.rest i d u hm hl
      refine ⟨y, env, h1, fun k z hk => ?_, ?_⟩
      · obtain ⟨j, g1, g2⟩ := h2 k z hk
        exact ⟨j, List.mem_cons_of_mem _ g1, g2⟩
      · rcases h3 with h3 | ⟨φ, h3, h4⟩
        · exact .inl h3
        · exact .inr ⟨φ, hsub _ h3, h4⟩

/-- The node behind the quiet operations. -/
theorem DrawT.rest {listed : Array Bool} {T : Array Value} {done : Done} {cur : World} {pins : Pins} (t : DrawT P o.toArray N D l S o eff K done cur pins) (H : Held P N D l S o eff listed T done cur pins) :
    ∃ done' pins', Held P N D l S o eff listed T done' cur pins' ∧
      (((List.range o.length).all (inDone done') = true ∧ K (doneEnv done' ++ l) cur) ∨
       (closedB o eff done' = true ∧ (enabledB o eff done').isEmpty = false ∧ ∀ n, n ∈ enabledB o eff done' → ∃ x R ks, o[n]? = some x ∧ pins'.all (fun j => (ancB o (edgesB x)).any (Nat.beq j.1) || List.any ks (Nat.beq j.1)) = true ∧ OpC P o.toArray N D (doneEnv (leans x done') ++ l) cur x R ∧ (∀ v w', R v w' → Chg S cur w' ∧ HoldAll (keepP ks pins') w') ∧
          ∀ v w', R v w' → DrawT P o.toArray N D l S o eff K ((n, x.dst, v) :: done') w' (keepP ks pins'))) := by
  induction t with
  | fin hd hK => exact ⟨_, _, H, .inl ⟨hd, hK⟩⟩
  | quiet n hx hq h k ih => exact ih (H.add hx hq (fun _ h => h) (.inl h))
  | pin n hx hq h h0 k ih => exact ih (H.add hx hq (fun _ h => List.mem_cons_of_mem _ h) (.inr ⟨_, List.mem_cons_self, h0, h⟩))
  | step X R ks hc hne h k ih => exact ⟨_, _, H, .inr ⟨hc, hne, fun n hn => by
      obtain ⟨h1, h2, h3, h4⟩ := h n hn
      exact ⟨X n, R n, ks n, h1, h2, h3, h4, k n hn⟩⟩⟩

/-- One operation is carried out: what stands then. -/
theorem Held.after {listed : Array Bool} {T T' : Array Value} {done : Done} {cur : World} {pins : Pins} (H : Held P N D l S o eff listed T done cur pins) (hnd : (dstsOf' o).Nodup) {i : Nat} {x : Oper} {d : Option Tmp} {v : Value} (hx : o[i]? = some x) (hd : x.dst = d) (hm : (i, d, v) ∈ done) (hsz : i < listed.size) (hpre : ∀ j, j ∈ edgesB x → listed[j]? = some true)
    (h1 : ∀ k, d = some k → T'.getD k undef = v) (h2 : ∀ k, (∀ d', d = some d' → k ≠ d') → T'.getD k undef = T.getD k undef) : Held P N D l S o eff (listed.setIfInBounds i true) T' done cur pins := by
  have hl : ∀ j, (listed.setIfInBounds i true)[j]? = some true → j = i ∨ listed[j]? = some true := fun j hj => by
    by_cases e : j = i
    · exact .inl e
    · rw [Array.getElem?_setIfInBounds_ne (fun e' => e e'.symm)] at hj; exact .inr hj
  have hl' : ∀ j, listed[j]? = some true → (listed.setIfInBounds i true)[j]? = some true := fun j hj => by
    by_cases e : j = i
    · rw [e, Array.getElem?_setIfInBounds, if_pos rfl, if_pos hsz]
    · rw [Array.getElem?_setIfInBounds_ne (fun e' => e e'.symm)]; exact hj
  refine ⟨H.dst, H.once, ?_, ?_, fun j h he => hl' j (H.effs j h he), fun j d u h hn => H.rest j d u h (fun hc => hn (hl' j hc)), fun j y hj hy q hq => ?_⟩
  rotate_left 2
  · rcases hl j hj with rfl | hj
    · rw [hx] at hy; injection hy with hy; subst hy; exact hl' q (hpre q hq)
    · exact hl' q (H.far j y hj hy q hq)
  · intro j hj
    rcases hl j hj with rfl | hj
    · exact inDone_iff.2 ⟨d, v, hm⟩
    · exact H.all j hj
  · intro j k u hju hj
    by_cases e : j = i
    · subst e
      obtain ⟨e1, e2⟩ := H.once j _ _ _ _ hju hm
      subst e2
      exact h1 k e1.symm
    · rcases hl j hj with rfl | hj
      · exact absurd rfl e
      · rw [h2 k (fun d' hd' hk => ?_)]
        · exact H.vals j k u hju hj
        · subst hk
          obtain ⟨y, hy, hyd⟩ := H.dst j _ _ hju
          exact e (dsts_inj hnd hy hx hyd (hd.trans hd'))

theorem anyDrawT (hnd : nodupB (dstsOf' o) = true) (hap : apartB l (dstsOf' o) = true) (hback : backB 0 o = true) (hN : dstsOkB N o = true)
    (h : DrawT P o.toArray N D l S o eff (fun l' w' => St N D l' (Q .normal) w') [] w.drew []) : ∀ T : Array Value, T.size = N → Slots T l → wpAny P .any o.toArray Q o.length (Array.replicate o.length false) ⟨T, D⟩ w.drew := by
  have hnd' := nodupB_spec hnd
  have hap' := apartB_spec hap
  have hback' : ∀ (i : Nat) (x : Oper), o[i]? = some x → ∀ e ∈ x.after, Region.binds .any e = true → e.on < i := fun i x hx e he hbd => by
    have := backB_spec hback i x hx e he hbd
    omega
  have hdst : ∀ (i : Nat) (x : Oper), o[i]? = some x → dstOk N x.dst = true := fun i x hx => List.all_eq_true.1 hN x (List.mem_of_getElem? hx)
  -- a frame with one more slot written
  have hput : ∀ (T : Array Value) (i : Nat) (x : Oper) (v : Value), T.size = N → Slots T l → o[i]? = some x → ∃ T', Act.put ⟨T, D⟩ x.dst v = ⟨T', D⟩ ∧ T'.size = N ∧ Slots T' l ∧ (∀ k, x.dst = some k → T'.getD k undef = v) ∧ (∀ k, (∀ d', x.dst = some d' → k ≠ d') → T'.getD k undef = T.getD k undef) := by
    intro T i x v hT hs hx
    cases hd : x.dst with
    | none => exact ⟨T, rfl, hT, hs, fun k h => (by simp at h), fun _ _ => rfl⟩
    | some d =>
      have hd2 : d < T.size := by
        have := hdst i x hx
        rw [hd] at this
        have h3 : d + 1 ≤ N := by simpa [dstOk, Nat.blt] using this
        rw [hT]; exact h3
      have hother : ∀ k, k ≠ d → (T.setIfInBounds d v).getD k undef = T.getD k undef := fun k hk => by
        simp [Array.getD_eq_getD_getElem?, Array.getElem?_setIfInBounds_ne (Ne.symm hk)]
      refine ⟨T.setIfInBounds d v, rfl, by simpa using hT, fun k u hk => ?_, fun k h => ?_, fun k hk => hother k (hk d rfl)⟩
      · have hne : k ≠ d := fun e => by
          subst e
          exact hap' k u hk (mem_dstsOf hx hd)
        rw [hother k hne]; exact hs k u hk
      · injection h with h; subst h
        simp [Array.getD_eq_getD_getElem?, hd2]
  have main : ∀ (fuel : Nat) (listed : Array Bool) (T : Array Value) (w1 : World), (∃ done pins, Held P N D l S o eff listed T done w1 pins ∧ DrawT P o.toArray N D l S o eff (fun l' w' => St N D l' (Q .normal) w') done w1 pins) →
      listed.size = o.length → listed.toList.count false ≤ fuel → T.size = N → Slots T l → wpAny P .any o.toArray Q fuel listed ⟨T, D⟩ w1 := by
    intro fuel
    -- when all are carried out
    have fine : ∀ (listed : Array Bool) (T : Array Value) (w1 : World), (∃ done pins, Held P N D l S o eff listed T done w1 pins ∧ DrawT P o.toArray N D l S o eff (fun l' w' => St N D l' (Q .normal) w') done w1 pins) →
        T.size = N → Slots T l → (∀ i, i < o.length → listed[i]? = some true) → Q .normal ⟨T, D⟩ w1 := by
      rintro listed T w1 ⟨done, pins, H, t⟩ hT hs hall
      obtain ⟨done', pins', H', hend⟩ := t.rest H
      rcases hend with ⟨_, hK⟩ | ⟨_, hne, hstep⟩
      · refine hK T hT ?_
        intro k v hk
        rw [look_append] at hk
        split at hk
        · rename_i u hu
          injection hk with hk; subst hk
          obtain ⟨i, hi⟩ := look_doneEnv hu
          obtain ⟨x, hx, _⟩ := H'.dst i _ _ hi
          exact H'.vals i k u hi (hall i (lt_of_get' hx))
        · exact hs k v hk
      · obtain ⟨n, hn⟩ : ∃ n, n ∈ enabledB o eff done' := by
          cases he : enabledB o eff done' with
          | nil => rw [he] at hne; cases hne
          | cons n r => exact ⟨n, List.mem_cons_self⟩
        obtain ⟨x, _, _, hx, _⟩ := hstep n hn
        have h1 := H'.all n (hall n (lt_of_get' hx))
        unfold enabledB at hn
        rw [List.mem_filter, h1] at hn
        simp at hn
    induction fuel with
    | zero =>
      intro listed T w1 hI hsz hcnt hT hs
      have hall : ∀ i, i < o.length → listed[i]? = some true := by
        intro i hi
        have hx : listed[i]? = some (listed[i]'(by omega)) := Array.getElem?_eq_getElem (by omega)
        cases hb : listed[i]'(by omega) with
        | true => rw [hx, hb]
        | false =>
          have : false ∈ listed.toList := by
            rw [← hb, Array.mem_toList_iff]; exact Array.getElem_mem _
          have := List.count_pos_iff.2 this
          omega
      refine ⟨?_, fine listed T w1 hI hT hs hall⟩
      unfold Region.ready
      rw [List.filter_eq_nil_iff]
      intro i hi
      rw [List.mem_range] at hi
      have := hall i (by simpa using hi)
      simp [Array.getD_eq_getD_getElem?, this]
    | succ fuel ih =>
      intro listed T w1 hI hsz hcnt hT hs
      refine ⟨fun hr => ?_, fun i hi => ?_⟩
      · have hall : ∀ i, i < o.length → listed[i]? = some true := by
          intro i
          induction i using Nat.strongRecOn with
          | _ i ihi =>
            intro hi
            have hx : listed[i]? = some (listed[i]'(by omega)) := Array.getElem?_eq_getElem (by omega)
            cases hb : listed[i]'(by omega) with
            | true => rw [hx, hb]
            | false =>
              exfalso
              have hmem : i ∈ Region.ready .any o.toArray listed := by
                unfold Region.ready
                rw [List.mem_filter]
                refine ⟨by simpa using hi, ?_⟩
                have ho : o.toArray[i]? = some o[i] := by simp [hi]
                simp only [ho, Option.map_some, Option.getD_some, Array.getD_eq_getD_getElem?, hx, hb, Bool.not_false, Bool.true_and]
                rw [Array.all_eq_true']
                intro e he
                cases hbd : Region.binds .any e with
                | false => rfl
                | true =>
                  have g2 := hback' i o[i] (List.getElem?_eq_getElem hi) e he hbd
                  have := ihi e.on g2 (by omega)
                  simp [this]
              rw [hr] at hmem
              simp at hmem
        exact fine listed T w1 hI hT hs hall
      · unfold Region.ready at hi
        rw [List.mem_filter, List.mem_range] at hi
        obtain ⟨hi1, hi2⟩ := hi
        have hi1' : i < o.length := by simpa using hi1
        have ho : o.toArray[i]? = some o[i] := by simp [hi1']
        have hx : o[i]? = some o[i] := List.getElem?_eq_getElem hi1'
        simp only [ho, Option.map_some, Option.getD_some, Bool.and_eq_true] at hi2
        obtain ⟨hu, hp⟩ := hi2
        have hlt : i < listed.size := by omega
        have hf : listed[i]? = some false := by
          rw [Array.getD_eq_getD_getElem?, Array.getElem?_eq_getElem hlt] at hu
          rw [Array.getElem?_eq_getElem hlt]
          simpa using hu
        have hpre : ∀ j, j ∈ edgesB o[i] → listed[j]? = some true := by
          intro j hj
          obtain ⟨e, he, hbd, rfl⟩ := mem_edgesB.1 hj
          rw [Array.all_eq_true'] at hp
          have h1 := hp e he
          have g2 := hback' i o[i] hx e he hbd
          rw [hbd] at h1
          have hl2 : e.on < listed.size := by omega
          rw [Array.getD_eq_getD_getElem?, Array.getElem?_eq_getElem hl2] at h1
          rw [Array.getElem?_eq_getElem hl2]
          simpa using h1
        have hcnt' : (listed.setIfInBounds i true).toList.count false ≤ fuel := by
          rw [Array.toList_setIfInBounds, List.count_set (by simpa using hlt)]
          have : listed.toList[i]'(by simpa using hlt) = false := by
            have h2 := hf
            rw [Array.getElem?_eq_getElem hlt] at h2
            simpa using h2
          have hpos : 0 < listed.toList.count false := List.count_pos_iff.2 (by rw [← this]; exact List.getElem_mem _)
          rw [this]
          have e1 : (if (false == false) = true then 1 else 0) = 1 := rfl
          have e2 : (if (true == false) = true then 1 else 0) = 0 := rfl
          rw [e1, e2]; omega
        obtain ⟨done0, pins0, H0, t0⟩ := hI
        obtain ⟨done, pins, H, hend⟩ := t0.rest H0
        have hnl : listed[i]? ≠ some true := by rw [hf]; simp
        have slots : ∀ env : Env, (∀ k u, look env k = some u → ∃ j, (j, some k, u) ∈ done ∧ j ∈ edgesB o[i]) → Slots T (env ++ l) := by
          intro env henv k u hk
          rw [look_append] at hk
          split at hk
          · rename_i u' hu'
            injection hk with hk; subst hk
            obtain ⟨j, h1, h2⟩ := henv k u' hu'
            exact H.vals j k u' h1 (hpre j h2)
          · exact hs k u hk
        unfold wpOp
        simp only [ho]
        by_cases hid : inDone done i = true
        · -- a quiet one
          obtain ⟨d, v, hmem⟩ := inDone_iff.1 hid
          obtain ⟨x, hxx, hxd⟩ := H.dst i d v hmem
          rw [hx] at hxx
          injection hxx with hxx; subst hxx
          obtain ⟨y, env, hy, henv, hok⟩ := H.rest i d v hmem hnl
          rw [hx] at hy
          injection hy with hy; subst hy
          have hok' : OpOk P o.toArray N D (env ++ l) w1 o[i] v := by
            rcases hok with ⟨wb, hb, hk⟩ | ⟨φ, _, h0, hk⟩
            · exact hk w1 hb
            · exact hk w1 h0
          have hrun := hok' T hT (slots env henv)
          have hgo : ∀ (u : Value), u = v → ∃ T', Act.put ⟨T, D⟩ o[i].dst u = ⟨T', D⟩ ∧ wpAny P .any o.toArray Q fuel (listed.setIfInBounds i true) ⟨T', D⟩ w1 := by
            rintro u rfl
            obtain ⟨T', g1, g2, g3, g4, g5⟩ := hput T i o[i] u hT hs hx
            refine ⟨T', g1, ih _ T' w1 ⟨done, pins, H.after hnd' hx hxd hmem hlt hpre (fun k hk => g4 k (hxd.trans hk)) (fun k hk => g5 k (fun d' hd' => hk d' (hxd ▸ hd'))), ?_⟩ (by simpa using hsz) hcnt' g2 g3⟩
            rcases hend with ⟨h1, h2⟩ | ⟨h1, h2, h3⟩
            · exact DrawT.fin h1 h2
            · have h4 : ∀ n : Nat, ∃ (x : Oper) (R : Value → World → Prop) (ks : List Nat), n ∈ enabledB o eff done → o[n]? = some x ∧ pins.all (fun j => (ancB o (edgesB x)).any (Nat.beq j.1) || List.any ks (Nat.beq j.1)) = true ∧ OpC P o.toArray N D (doneEnv (leans x done) ++ l) w1 x R ∧ (∀ v w', R v w' → Chg S w1 w' ∧ HoldAll (keepP ks pins) w') ∧ ∀ v w', R v w' → DrawT P o.toArray N D l S o eff (fun l' w' => St N D l' (Q .normal) w') ((n, x.dst, v) :: done) w' (keepP ks pins) := fun n => by
                by_cases hn : n ∈ enabledB o eff done
                · obtain ⟨x, R, ks, h⟩ := h3 n hn
                  exact ⟨x, R, ks, fun _ => h⟩
                · exact ⟨o[i], fun _ _ => True, [], fun h => absurd h hn⟩
              obtain ⟨X, h5⟩ := Classical.axiomOfChoice h4
              obtain ⟨R, h5⟩ := Classical.axiomOfChoice h5
              obtain ⟨ks, h6⟩ := Classical.axiomOfChoice h5
              exact DrawT.step X R ks h1 h2 (fun n hn => ⟨(h6 n hn).1, (h6 n hn).2.1, (h6 n hn).2.2.1, (h6 n hn).2.2.2.1⟩) (fun n hn => (h6 n hn).2.2.2.2)
          rcases hrun with ⟨hw, hr⟩ | ⟨hw, hr⟩
          · rw [if_pos hw]
            refine .inl ?_
            unfold Oper.wp
            obtain ⟨T', g1, g2⟩ := hgo v rfl
            rw [hr, Oper.upon_value, g1]
            exact g2
          · obtain ⟨T', g1, g2⟩ := hgo undef hr.symm
            rw [if_neg (by rw [hw]; simp), g1]
            exact g2
        · -- one that turns the world
          have hid' : inDone done i = false := by simpa using hid
          rcases hend with ⟨h1, _⟩ | ⟨hc, _, hstep⟩
          · have := List.all_eq_true.1 h1 i (List.mem_range.2 hi1')
            rw [hid'] at this; cases this
          · have hall := List.all_eq_true.1 hc i (List.mem_range.2 hi1')
            have hedges : (edgesB o[i]).all (inDone done) = true := List.all_eq_true.2 fun j hj => H.all j (hpre j hj)
            have heff : isEff eff i = true := by
              cases he : isEff eff i with
              | true => rfl
              | false =>
                rw [hid', he, hx, Bool.false_or, Bool.false_or] at hall
                obtain ⟨j, hj, hn⟩ := List.any_eq_true.1 hall
                have := List.all_eq_true.1 hedges j hj
                rw [this] at hn; cases hn
            have hmem : i ∈ eff := by
              obtain ⟨j, hj, hb⟩ := List.any_eq_true.1 heff
              have := Nat.eq_of_beq_eq_true hb
              subst this
              exact hj
            have hen : i ∈ enabledB o eff done := by
              unfold enabledB
              rw [List.mem_filter]
              refine ⟨hmem, ?_⟩
              rw [hid', hx]
              simpa using hedges
            obtain ⟨x, R, ks, hxx, hpins, hop, hchg0, tn0⟩ := hstep i hen
            rw [hx] at hxx
            injection hxx with hxx; subst hxx
            have hsl := slots _ (fun k u hk => leans_look hk)
            have hw := hop.2 T hT hsl
            have hrun := hop.1 T hT hsl
            suffices hmain : ∀ v w', R v w' → ∃ T', Act.put ⟨T, D⟩ o[i].dst v = ⟨T', D⟩ ∧ wpAny P .any o.toArray Q fuel (listed.setIfInBounds i true) ⟨T', D⟩ w' by
              rw [if_pos hw]
              refine .inl ?_
              unfold Oper.wp
              rcases hrun with ⟨v, w', hR, hr⟩ | ⟨v, w', hR, hr, hn⟩ | ⟨f, args, hr, hcall⟩
              · obtain ⟨T', g1, g2⟩ := hmain v w' hR
                rw [hr, Oper.upon_value, g1]
                exact g2
              · obtain ⟨T', g1, g2⟩ := hmain v w' hR
                rw [hn] at g1
                have e1 : (⟨T, D⟩ : Act) = ⟨T', D⟩ := g1
                rw [hr, Oper.upon_skip, hn, e1]
                exact g2
              · rw [hr, Oper.upon_enter]
                refine Calls.mono hcall ?_
                rintro e w2 ⟨v, rfl, hR⟩
                obtain ⟨T', g1, g2⟩ := hmain v w2 hR
                simp only [g1]
                exact g2
            intro v w' hR
            obtain ⟨hchg, hhold⟩ := hchg0 v w' hR
            have tn := tn0 v w' hR
            obtain ⟨T', g1, g2, g3, g4, g5⟩ := hput T i o[i] v hT hs hx
            have hnd2 : ∀ d u, (i, d, u) ∉ done := fun d u hm => by
              have := inDone_iff.2 ⟨d, u, hm⟩
              rw [hid'] at this; cases this
            -- what stands behind it
            have H1 : Held P N D l S o eff (listed.setIfInBounds i true) T' ((i, o[i].dst, v) :: done) w' (keepP ks pins) := by
              have hl : ∀ j, (listed.setIfInBounds i true)[j]? = some true → j = i ∨ listed[j]? = some true := fun j hj => by
                by_cases e : j = i
                · exact .inl e
                · rw [Array.getElem?_setIfInBounds_ne (fun e' => e e'.symm)] at hj; exact .inr hj
              have hl' : ∀ j, listed[j]? = some true → (listed.setIfInBounds i true)[j]? = some true := fun j hj => by
                by_cases e : j = i
                · rw [e, Array.getElem?_setIfInBounds, if_pos rfl, if_pos hlt]
                · rw [Array.getElem?_setIfInBounds_ne (fun e' => e e'.symm)]; exact hj
              refine ⟨?_, ?_, ?_, ?_, ?_, ?_, fun j y hj hy q hq => ?_⟩
              rotate_right 1
              · rcases hl j hj with rfl | hj
                · rw [hx] at hy; injection hy with hy; subst hy; exact hl' q (hpre q hq)
                · exact hl' q (H.far j y hj hy q hq)
              · intro j d u hm
                rcases List.mem_cons.1 hm with e | hm
                · simp only [Prod.mk.injEq] at e
                  obtain ⟨rfl, rfl, rfl⟩ := e
                  exact ⟨_, hx, rfl⟩
                · exact H.dst j d u hm
              · intro j d u d' u' hm hm'
                rcases List.mem_cons.1 hm with e | hm0
                · simp only [Prod.mk.injEq] at e
                  obtain ⟨rfl, rfl, rfl⟩ := e
                  rcases List.mem_cons.1 hm' with e | hm'
                  · simp only [Prod.mk.injEq] at e
                    exact ⟨e.2.1.symm, e.2.2.symm⟩
                  · exact absurd hm' (hnd2 _ _)
                · rcases List.mem_cons.1 hm' with e | hm'
                  · simp only [Prod.mk.injEq] at e
                    obtain ⟨rfl, rfl, rfl⟩ := e
                    exact absurd hm0 (hnd2 _ _)
                  · exact H.once j d u d' u' hm0 hm'
              · intro j hj
                rcases hl j hj with rfl | hj
                · exact inDone_iff.2 ⟨_, _, List.mem_cons_self⟩
                · obtain ⟨d, u, hm⟩ := inDone_iff.1 (H.all j hj)
                  exact inDone_iff.2 ⟨d, u, List.mem_cons_of_mem _ hm⟩
              · intro j k u hm hj
                rcases List.mem_cons.1 hm with e | hm0
                · simp only [Prod.mk.injEq] at e
                  obtain ⟨rfl, e2, rfl⟩ := e
                  exact g4 k e2.symm
                · have hji : j ≠ i := fun e => by subst e; exact hnd2 _ _ hm0
                  rcases hl j hj with rfl | hj
                  · exact absurd rfl hji
                  · obtain ⟨y, hy, hyd⟩ := H.dst j _ _ hm0
                    rw [g5 k (fun d' hd' hk => hji (dsts_inj hnd' hy hx hyd (by rw [hd', hk])))]
                    exact H.vals j k u hm0 hj
              · intro j hj he
                by_cases e : j = i
                · subst e; simp [hlt]
                · obtain ⟨d, u, hm⟩ := inDone_iff.1 hj
                  rcases List.mem_cons.1 hm with e' | hm0
                  · simp only [Prod.mk.injEq] at e'
                    exact absurd e'.1 e
                  · exact hl' j (H.effs j (inDone_iff.2 ⟨d, u, hm0⟩) he)
              · intro j d u hm hn
                rcases List.mem_cons.1 hm with e' | hm0
                · simp only [Prod.mk.injEq] at e'
                  obtain ⟨rfl, _, _⟩ := e'
                  exact absurd (by simp [hlt]) hn
                · obtain ⟨y, env, r1, r2, r3⟩ := H.rest j d u hm0 (fun hc => hn (hl' j hc))
                  refine ⟨y, env, r1, fun k z hk => ?_, ?_⟩
                  · obtain ⟨q, q1, q2⟩ := r2 k z hk
                    exact ⟨q, List.mem_cons_of_mem _ q1, q2⟩
                  · rcases r3 with ⟨wb, r4, r5⟩ | ⟨φ, r4, r0, r5⟩
                    · exact .inl ⟨wb, r4.trans hchg, r5⟩
                    · have h6 := List.all_eq_true.1 hpins _ r4
                      rw [Bool.or_eq_true] at h6
                      rcases h6 with h6 | h6
                      · exfalso
                        obtain ⟨z, hz, hb⟩ := List.any_eq_true.1 h6
                        have := Nat.eq_of_beq_eq_true hb
                        dsimp only at this
                        subst this
                        exact hn (hl' _ (mem_ancB (p := fun q => listed[q]? = some true) hpre (fun i x hi hx j hj => H.far i x hi hx j hj) _ hz))
                      · have h7 := mem_keepP r4 h6
                        exact .inr ⟨φ, h7, hhold.mem _ h7, r5⟩
            exact ⟨T', g1, ih _ T' w' ⟨_, _, H1, tn⟩ (by simpa using hsz) hcnt' g2 g3⟩
  intro T hT hs
  refine main o.length (Array.replicate o.length false) T _ ⟨[], [], ⟨?_, ?_, ?_, ?_, ?_, ?_, ?_⟩, h⟩ (by simp) (by simp) hT hs
  · intro i d v hm; simp at hm
  · intro i d v d' v' hm; simp at hm
  · intro i hi
    rw [Array.getElem?_replicate] at hi
    split at hi <;> simp at hi
  · intro i k v hm; simp at hm
  · intro i hi; simp [inDone] at hi
  · intro i d v hm; simp at hm
  · intro i y hi
    rw [Array.getElem?_replicate] at hi
    split at hi <;> simp at hi
theorem St.drawT {id : Nat} (hm : P.follows .mixedOrders = true) (hnd : nodupB (dstsOf' o) = true) (hap : apartB l (dstsOf' o) = true) (hback : backB 0 o = true) (hN : dstsOkB N o = true)
    (h : DrawT P o.toArray N D l S o eff (fun l' w' => St N D l' (Q .normal) w') [] w.drew []) : St N D l (wpr none P (Code.region id o.toArray true) Q) w := fun T hT hs =>
  wpr_none.2 (wp_region_any hm (by rw [List.size_toArray]; exact anyDrawT hnd hap hback hN h T hT hs))
theorem St.drawTL {id : Nat} {d : Tmp} {y : Operand} {ty : TypeId} {pos : String} {af : Array Edge} (hm : P.follows .mixedOrders = true) (hx : o.getLast? = some ⟨some d, .assign y, ty, pos, af, none⟩) (hok : lastOk o.dropLast af = true)
    (hnd : nodupB (dstsOf' o.dropLast) = true) (hap : apartB l (dstsOf' o.dropLast) = true) (hback : backB 0 o.dropLast = true) (hN : dstsOkB N o.dropLast = true)
    (h : DrawT P o.dropLast.toArray N D l S o.dropLast eff (fun l' w' => St N D l' (Last d y Q .normal) w') [] w.drew []) : St N D l (wpr none P (Code.region id o.toArray true) Q) w :=
  region_last hm hx hok hback (anyDrawT hnd hap hback hN h)
end
end Go.Proofs.YtjgcmpondbocfaaGreatDoor
