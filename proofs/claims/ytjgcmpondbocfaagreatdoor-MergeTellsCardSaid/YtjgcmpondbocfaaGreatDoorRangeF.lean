/- Loops over functions: yields, rounds, the statement, the leaving of a function that holds one. No condition. -/
import Derived.Test.YtjgcmpondbocfaaGreatDoorEff
import Derived.RangeFuncSeq
namespace Go.Proofs.YtjgcmpondbocfaaGreatDoor
open Go.RowKit

section
variable {ro : Option Nat} {P : Program} {N : Nat} {D : List Deferred} {l : Env} {w : World} {Q : Exit → Act → World → Prop} {ops : Array Oper} {rest : List Oper}
variable {d : Option Tmp} {ty : TypeId} {pos : String} {af : Array Edge} {gd : Option (Nat × Bool)}

theorem roundIn_fen {r1 r2 : Option Nat} {n m : Nat} {lp : Nat} {f : FuncId} {tmps : Array Value} {assign body : Code} {R : Ending → World → Prop} (h : RoundIn (fen r1) n P lp f tmps assign body w R) : RoundIn (fen r2) m P lp f tmps assign body w R :=
  ⟨trivial, fun c cs _ => h.2 c cs (fen_room _ _)⟩

/-- A call of yield: the round hands back whether it goes on. -/
def Yields (P : Program) (lp : Nat) (vs : List Value) (w : World) (R : Bool → World → Prop) : Prop :=
  YieldAt (fen none) 0 P lp vs.toArray w fun e w' => ∃ b, e = .returned (.bool b) ∧ R b w'
theorem Yields.mono {lp : Nat} {vs : List Value} {R R' : Bool → World → Prop} (h : Yields P lp vs w R) (hr : ∀ b w', R b w' → R' b w') : Yields P lp vs w R' := by
  obtain ⟨fn, tmps, assign, body, hy, hR⟩ := h
  exact ⟨fn, tmps, assign, body, hy, hR.mono fun e w' ⟨b, he, h⟩ => ⟨b, he, hr b w' h⟩⟩
theorem St.yield {fo : Operand} {args : Array Operand} {at_ : Array TypeId} {lp : Nat} {vs : List Value} {R : Bool → World → Prop} (hf : ev l fo = some (.func (.yield lp) #[] #[])) (ha : evs l args.toList = some vs)
    (hY : Yields P lp vs w R) (hN : dstOk N d = true) (k : ∀ b w', R b w' → St N D (putE d (.bool b) l) (wpl ro P ops Q rest) w') :
    St N D l (wpl ro P ops Q (⟨d, .call { callee := .value fo, args := args, argTypes := at_ }, ty, pos, af, none⟩ :: rest)) w := by
  intro T hT hs
  refine wpl_plain rfl fun K hK => ?_
  obtain ⟨fn, tmps, assign, body, hy, hround⟩ := hY
  have hargs : args.map (Act.eval ⟨T, D⟩) = vs.toArray := by rw [← evs_eval hs ha, ← Array.toList_map, Array.toArray_toList]
  have hr : (execOp (Act.eval ⟨T, D⟩) ⟨d, .call { callee := .value fo, args := args, argTypes := at_ }, ty, pos, af, none⟩).run P w = .ok (.round lp fn tmps assign body) w := by
    simp only [execOp, resolve, ev_eval hs hf, Deferred.ofValue, Sem.run_bind, Sem.run_pure, Result.andThen_ok, hargs, invoke]
    simpa using hy
  refine ⟨fun _ _ => trivial, ?_⟩
  show Oper.uponIn _ _ P _ _ K Q ((Oper.semAt ro _ _).run P w)
  rw [semAt_of hr (fun d e => by cases e), Oper.uponIn_round]
  refine ⟨(fun h => by cases h), RoundIn.mono (roundIn_fen hround) ?_⟩
  rintro e w' ⟨b, rfl, hR⟩
  obtain ⟨T', h1, h2, h3⟩ := hs.putE (D := D) (d := d) (by rw [hT]; exact hN) (.bool b)
  show K _ w'
  simp only [h1]
  exact hK _ _ (k b w' hR T' (h2.trans hT) h3)

/-! ### the loop's record -/
def recOf (fn : FuncId) (T : Array Value) (ps : Array Tmp) (assign body : Code) (Db : Nat) (st : LoopState) (pend : Option Code) : Loop :=
  { state := st, pending := pend, fn, tmps := T, params := ps, assign, body, defers := Db }
def LoopB (w : World) (lp : Nat) (r : Loop) : Prop := w.heap[lp]? = some (.loop r)
theorem LoopB.lt {lp : Nat} {r : Loop} (h : LoopB w lp r) : lp < w.heap.size := (Array.getElem?_eq_some_iff.1 h).1
theorem LoopB.chg {S : Nat → Prop} {w' : World} {lp : Nat} {r : Loop} (h : LoopB w lp r) (c : Chg S w w') (hs : ¬ S lp) : LoopB w' lp r := (c.block lp h.lt hs).trans h
theorem LoopB.ext {w' : World} {lp : Nat} {r : Loop} (h : LoopB w lp r) (c : Ext w w') : LoopB w' lp r := h.chg c (fun x => x)
theorem Chg.putObj (w : World) (lp : Nat) (o : Obj) : Chg (fun k => k = lp) w (w.putObj lp o) := ⟨rfl, rfl, rfl, by simp, fun k _ hk => World.putObj_heap_other hk, Nat.le_refl _⟩
theorem LoopB.put {lp : Nat} {r : Loop} (h : LoopB w lp r) (r' : Loop) : LoopB (w.putObj lp (.loop r')) lp r' := World.putObj_heap_same h.lt

theorem putObj_facts {w2 : World} {lp : Nat} {r r' : Loop} (e : w2 = w.putObj lp (.loop r')) (hL : LoopB w lp r) : Chg (fun k => k = lp) w w2 ∧ w2.heap.size = w.heap.size ∧ LoopB w2 lp r' := by
  subst e; exact ⟨Chg.putObj _ _ _, World.putObj_size, hL.put _⟩
/-- One round of a loop whose parameters are 'ps': the assignments, then the body, from the slots as they stood. -/
theorem Yields.of {lp : Nat} {fn : FuncId} {T : Array Value} {ps : Array Tmp} {assign body : Code} {Db : Nat} {vs : List Value} {l' : Env} {R : Bool → World → Prop}
    (hL : LoopB w lp (recOf fn T ps assign body Db .ready none)) (hsz : vs.length = ps.size)
    (hsl : Slots ((ps.zip vs.toArray).foldl (fun (tmps : Array Value) (x : Tmp × Value) => tmps.setIfInBounds x.1 x.2) T) l') (hT : T.size = N)
    (h : St N [] l' (wpr (some lp) P assign (Exit.then (fun a w1 => LoopB w1 lp (recOf fn T ps assign body Db .ready none) ∧ ∀ w2, w2 = w1.putObj lp (.loop (recOf fn T ps assign body Db .busy none)) → wpr (some lp) P body (fun e a w3 => match e with
        | .normal => LoopB w3 lp (recOf fn T ps assign body Db .busy none) ∧ R true (w3.putObj lp (.loop (recOf fn T ps assign body Db .ready none)))
        | .ret => LoopB w3 lp (recOf fn T ps assign body Db .busy none) ∧ R false (w3.putObj lp (.loop (recOf fn T ps assign body Db .done (some .ret))))
        | .exit id => LoopB w3 lp (recOf fn T ps assign body Db .busy none) ∧ R false (w3.putObj lp (.loop (recOf fn T ps assign body Db .done (some (.exit id)))))
        | _ => False) a w2) (fun _ _ _ => False))) w) : Yields P lp vs w R := by
  refine ⟨fn, _, assign, body, run_yield hL (by simpa [recOf] using hsz), roundIn_of_wpIn (l := lp) trivial ?_⟩
  have hsz' : ((ps.zip vs.toArray).foldl (fun (tmps : Array Value) (x : Tmp × Value) => tmps.setIfInBounds x.1 x.2) T).size = N := by
    have key : ∀ (ls : List (Tmp × Value)) (A : Array Value), (ls.foldl (fun (tmps : Array Value) (x : Tmp × Value) => tmps.setIfInBounds x.1 x.2) A).size = A.size := by
      intro ls
      induction ls with
      | nil => intro A; rfl
      | cons x ls ih => intro A; rw [List.foldl_cons, ih]; simp
    rw [← Array.foldl_toList, key, hT]
  have h0 := h _ hsz' hsl
  refine wpIn_mono h0 fun e a w1 hq => ?_
  cases e with
  | normal =>
    obtain ⟨hL1, hb⟩ := hq
    refine ⟨_, run_beginRound hL1 rfl, ?_⟩
    have hb' := hb _ rfl
    refine wpIn_mono hb' fun e a w3 hq => ?_
    cases e with
    | normal =>
      obtain ⟨hL3, hR⟩ := hq
      exact ⟨_, _, run_endRound none hL3, true, rfl, hR⟩
    | ret =>
      obtain ⟨hL3, hR⟩ := hq
      exact ⟨_, _, run_endRound (some .ret) hL3, false, rfl, hR⟩
    | exit id =>
      obtain ⟨hL3, hR⟩ := hq
      exact ⟨_, _, run_endRound (some (.exit id)) hL3, false, rfl, hR⟩
    | goto t => exact hq.elim
    | panic c => exact hq.elim
    | outgrown => exact hq.elim
  | exit id => exact hq.elim
  | goto t => exact hq.elim
  | ret => exact hq.elim
  | panic c => exact hq.elim
  | outgrown => exact hq.elim

theorem Yields.of1 {lp : Nat} {fn : FuncId} {T : Array Value} {p : Tmp} {assign body : Code} {Db : Nat} {v : Value} {R : Bool → World → Prop} {r : LoopState → Option Code → Loop} (hr : r = recOf fn T #[p] assign body Db)
    (hL : LoopB w lp (r .ready none)) (hs : Slots T l) (hT : T.size = N) (hp : Nat.blt p N = true)
    (h : St N [] ((p, v) :: l) (wpr (some lp) P assign (Exit.then (fun a w1 => LoopB w1 lp (r .ready none) ∧ ∀ w2, w2 = w1.putObj lp (.loop (r .busy none)) → wpr (some lp) P body (fun e a w3 => match e with
        | .normal => LoopB w3 lp (r .busy none) ∧ R true (w3.putObj lp (.loop (r .ready none)))
        | .ret => LoopB w3 lp (r .busy none) ∧ R false (w3.putObj lp (.loop (r .done (some .ret))))
        | .exit id => LoopB w3 lp (r .busy none) ∧ R false (w3.putObj lp (.loop (r .done (some (.exit id)))))
        | _ => False) a w2) (fun _ _ _ => False))) w) : Yields P lp [v] w R := by
  subst hr
  refine Yields.of (l' := (p, v) :: l) hL rfl ?_ hT h
  have e : ((#[p] : Array Tmp).zip [v].toArray).foldl (fun (tmps : Array Value) (x : Tmp × Value) => tmps.setIfInBounds x.1 x.2) T = T.setIfInBounds p v := by simp
  rw [e]
  refine hs.put ?_ v
  have : p + 1 ≤ N := by simpa [Nat.blt] using hp
  rw [hT]; exact this
/-- The round begins: the record is busy. -/
theorem St.begin {lp : Nat} {r : Loop} {body : Code} {o : Obj} {Q' : Exit → Act → World → Prop} (hL : LoopB w lp r) (h : ∀ w2, w2 = w.putObj lp o → St N D l (wpr ro P body Q') w2) :
    St N D l (fun a w1 => LoopB w1 lp r ∧ ∀ w2, w2 = w1.putObj lp o → wpr ro P body Q' a w2) w := fun T hT hs => ⟨hL, fun w2 e => h w2 e T hT hs⟩
theorem St.at {T : Array Value} {φ : Act → World → Prop} (hT : T.size = N) (hs : Slots T l) (h : St N D l φ w) : φ ⟨T, D⟩ w := h T hT hs
def DefB (w : World) (b : Nat) : Prop := w.heap[b]? = some (.deferred (some []))
theorem DefB.lt {b : Nat} (h : DefB w b) : b < w.heap.size := (Array.getElem?_eq_some_iff.1 h).1
theorem DefB.chg {S : Nat → Prop} {w' : World} {b : Nat} (h : DefB w b) (c : Chg S w w') (hs : ¬ S b) : DefB w' b := (c.block b h.lt hs).trans h
theorem DefB.ext {w' : World} {b : Nat} (h : DefB w b) (c : Ext w w') : DefB w' b := h.chg c (fun x => x)

theorem DefB.shut {b : Nat} (_ : DefB w b) : Chg (fun k => k = b) w (w.putObj b (.deferred none)) := Chg.putObj _ _ _
/-- What is done behind the loop: the jump that a round has left, or what follows. -/
def Jumped (P : Program) (Q : Exit → Act → World → Prop) : Option Code → Act → World → Prop
  | none, a, w => Q .normal a w
  | some c, a, w => wpr none P c Q a w
theorem St.jump0 {T : Array Value} (hT : T.size = N) (hs : Slots T l) (h : St N D l (Q .normal) w) : Jumped P Q none ⟨T, D⟩ w := h T hT hs
theorem St.jump {T : Array Value} {c : Code} (hT : T.size = N) (hs : Slots T l) (h : St N D l (wpr none P c Q) w) : Jumped P Q (some c) ⟨T, D⟩ w := h T hT hs
/-- The statement: the loop's record is laid, the function is called with yield; behind it the jump that a round has left is made. -/
theorem St.rangeF {g0 : Operand} {ps : Array Tmp} {assign body : Code} {g : FuncId} {caps : Array Value} (hf : ev l g0 = some (.func (.func g) #[] caps)) (he : Ent P g)
    (h : ∀ (fn : FuncId) (T : Array Value) (w1 : World) (lp : Nat) (r : LoopState → Option Code → Loop), T.size = N → Slots T l → r = recOf fn T ps assign body w.heap.size → Ext w w1 → lp = w.heap.size + 1 → w1.heap.size = lp + 1 → DefB w1 w.heap.size → LoopB w1 lp (r .ready none) →
      Ret P g (.func (.yield lp) #[] #[] :: caps.toList) w1 fun _ w2 => ∃ st pend, st ≠ .busy ∧ LoopB w2 lp (r st pend) ∧
        Jumped P Q pend ⟨T, { target := .collected w.heap.size, args := #[] } :: D⟩ (w2.putObj lp (.loop (r .exhausted pend)))) :
    St N D l (wpr none P (.rangeFunc g0 ps assign body) Q) w := by
  intro T hT hs
  refine wpIn_rangeFunc fun fn _ => ?_
  let w1 := (w.alloc (.deferred (some []))).alloc (.loop (recOf fn T ps assign body w.heap.size .ready none))
  have e1 : Ext w w1 := Ext.trans (Ext.alloc _ _) (Ext.alloc _ _)
  have hD : w1.heap[w.heap.size]? = some (.deferred (some [])) := (Below.heap_alloc _ _ _ (by simp)).trans (World.alloc_heap_new w _)
  have hL : LoopB w1 (w.heap.size + 1) (recOf fn T ps assign body w.heap.size .ready none) := by
    have := World.alloc_heap_new (w.alloc (.deferred (some []))) (.loop (recOf fn T ps assign body w.heap.size .ready none))
    rwa [World.size_alloc] at this
  refine ⟨w.heap.size + 1, [{ target := .collected w.heap.size, args := #[] }], w1, { target := .fn (.func g) caps, args := #[.func (.yield (w.heap.size + 1)) #[] #[]] }, w1, g, #[.func (.yield (w.heap.size + 1)) #[] #[]] ++ caps, w1, ?_, ?_, (fun _ _ => trivial), ?_, (fun h => by cases h), ?_⟩
  · exact run_enterLoop_outer _ _ _ _ _
  · have hg : Act.eval ⟨T, D⟩ g0 = .func (.func g) #[] caps := ev_eval hs hf
    simp only [resolve, rangeCall, hg, Deferred.ofValue]
    simp [Sem.run_pure, Act.eval]
  · simp only [invoke]; exact he _ _
  · have h1 := h fn T w1 _ _ hT hs rfl e1 rfl (by simp [w1]) hD hL
    have ea : (#[.func (.yield (w.heap.size + 1)) #[] #[]] ++ caps : Array Value) = (Value.func (.yield (w.heap.size + 1)) #[] #[] :: caps.toList).toArray := by apply Array.ext'; simp
    rw [ea]
    refine callsIn_fen.2 (Calls.mono h1 ?_)
    rintro e w2 ⟨v, rfl, st, pend, hst, hL2, hq⟩
    refine ⟨pend, _, run_endLoop hL2 hst, ?_⟩
    cases pend with
    | none => exact hq
    | some c => exact hq

/-! ### the leaving -/
theorem St.enterM {f : FuncId} {fn : Func} {c : Code} {args : List Value} {R : Ending → World → Prop} (hf : P.funcs[f]? = some fn) (hb : fn.body = some c) (hn : fn.ntmps = N) (ha : Nat.ble args.length N = true)
    (h : St N [] (argEnv 0 args) (wpr none P c (bodyPostM (fen none) 0 P fn R)) w) : Calls P f args.toArray w R := by
  refine (callsIn_fen (ro := none) (n := 0)).1 (callsIn_of_wp_marks hf hb trivial ?_ rfl)
  refine h _ ?_ (argEnv_slots args _)
  have : args.length ≤ N := Nat.le_of_ble_eq_true ha
  simp [hn]; omega
/-- A function that ends ahead of its loop leaves as any. -/
theorem St.plainM {fn : Func} {R : Ending → World → Prop} {e : Exit} (he : e = .ret ∨ e = .normal) (h : St N [] l (bodyPost P fn R e) w) : St N [] l (bodyPostM (fen none) 0 P fn R e) w := fun T hT hs => by
  have h0 := h T hT hs
  rcases he with rfl | rfl <;> exact h0.2
/-- Behind its loop: the mark is taken. -/
theorem St.marked {fn : Func} {R : Ending → World → Prop} {e : Exit} {Db : Nat} (he : e = .ret ∨ e = .normal) (hD : DefB w Db)
    (h : St N [] l (bodyPost P fn R e) (w.putObj Db (.deferred none))) : St N [{ target := .collected Db, args := #[] }] l (bodyPostM (fen none) 0 P fn R e) w := fun T hT hs => by
  have h0 := h T hT hs
  have key : ∀ u : FrameMode, u ≠ .run → LeavesIn (fen none) 0 P fn T R [] u (w.putObj Db (.deferred none)) → LeavesInM (fen none) 0 P fn T R [{ target := .collected Db, args := #[] }] u w := fun u hu hl => ⟨hu, .inl ⟨Db, _, rfl, run_takeDeferred hD, hl⟩⟩
  rcases he with rfl | rfl <;> exact key _ (by simp) h0.2
/-! ### iterators -/
/-- A value that gives elements one by one, whatever the rounds keep between them; 'n': how many at most. -/
def SeqC (P : Program) (g : FuncId) (caps : List Value) {α : Type} (encK : α → Value) (S : List α → Prop) (n : Nat) (w : World) : Prop :=
  ∀ (W : World) (lp : Nat) (J : List α → World → Prop), Ext w W → w.heap.size ≤ lp → lp < W.heap.size →
    (∀ pre W1 W2, J pre W1 → W.heap.size ≤ W1.heap.size → Chg (fun k => k = W.heap.size) W1 W2 → J pre W2) →
    (∀ pre W1 x, J pre W1 → pre.length < n → W.heap.size < W1.heap.size → Yields P lp [encK x] W1 (fun go W2 => go = true ∧ J (pre ++ [x]) W2 ∧ Chg (fun k => (w.heap.size ≤ k ∧ k < W.heap.size) ∨ W.heap.size < k) W1 W2)) →
    J [] W → Ret P g (.func (.yield lp) #[] #[] :: caps) W fun _ W2 => ∃ ks, S ks ∧ J ks W2
end
end Go.Proofs.YtjgcmpondbocfaaGreatDoor
