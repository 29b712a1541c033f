/- What the operations that turn the world come to, for a region whose order is open. No condition. -/
import Derived.Test.YtjgcmpondbocfaaGreatDoorDrawT
import Derived.Test.YtjgcmpondbocfaaGreatDoorSlices
namespace Go.Proofs.YtjgcmpondbocfaaGreatDoor
open Go.RowKit

section
variable {ro : Option Nat} {P : Program} {N : Nat} {D : List Deferred} {l : Env} {w : World} {Q : Exit → Act → World → Prop} {S : Nat → Prop} {o : List Oper} {eff : List Nat} {K : Env → World → Prop} {ops : Array Oper} {rest : List Oper}
variable {d : Option Tmp} {ty : TypeId} {pos : String} {af : Array Edge} {gd : Option (Nat × Bool)}

theorem OpC.plain {x : Oper} {R : Value → World → Prop} (h : Eff P N D l w x R) (hg : x.guard = none) : OpC P ops N D l w x R := ⟨h, fun T _ _ => by simp [Region.wanted, hg]⟩
theorem OpC.taken {x : Oper} {R : Value → World → Prop} {g dg : Nat} {b : Bool} (h : Eff P N D l w x R) (hg : x.guard = some (g, b)) (hd : (ops[g]?).bind (·.dst) = some dg) (hb : look l dg = some (.bool b)) (hN : Nat.blt dg N = true) : OpC P ops N D l w x R := by
  refine ⟨h, fun T hT hs => ?_⟩
  have h1 := hs _ _ hb
  have hlt : dg + 1 ≤ T.size := by rw [hT]; simpa [Nat.blt] using hN
  have h2 : T[dg]? = some (.bool b) := by
    rw [Array.getD_eq_getD_getElem?] at h1
    rw [Array.getElem?_eq_getElem hlt] at h1 ⊢
    simpa using h1
  simp [Region.wanted, yielded, hg, hd, h2]
/-- One alone may come next. -/
theorem DrawT.one {done : Done} {cur : World} {pins : Pins} {n : Nat} {x : Oper} {R : Value → World → Prop} (ks : List Nat) (hn : enabledB o eff done = [n]) (hx : o[n]? = some x) (hc : closedB o eff done = true) (hp : pins.all (fun j => (ancB o (edgesB x)).any (Nat.beq j.1) || ks.any (Nat.beq j.1)) = true)
    (h : OpC P ops N D (doneEnv (leans x done) ++ l) cur x R) (hS : ∀ v w', R v w' → Chg S cur w' ∧ HoldAll (keepP ks pins) w') (k : ∀ v w', R v w' → DrawT P ops N D l S o eff K ((n, x.dst, v) :: done) w' (keepP ks pins)) : DrawT P ops N D l S o eff K done cur pins :=
  DrawT.step (fun _ => x) (fun _ => R) (fun _ => ks) hc (by rw [hn]; rfl) (fun m hm => by rw [hn, List.mem_singleton] at hm; subst hm; exact ⟨hx, hp, h, hS⟩) (fun m hm => by rw [hn, List.mem_singleton] at hm; subst hm; exact k)
/-- Any of some. -/
def StepAll (P : Program) (ops : Array Oper) (N : Nat) (D : List Deferred) (l : Env) (S : Nat → Prop) (o : List Oper) (eff : List Nat) (K : Env → World → Prop) (done : Done) (cur : World) (pins : Pins) : List Nat → Prop
  | [] => True
  | n :: r => (∃ (x : Oper) (R : Value → World → Prop) (ks : List Nat), o[n]? = some x ∧ pins.all (fun j => (ancB o (edgesB x)).any (Nat.beq j.1) || ks.any (Nat.beq j.1)) = true ∧ OpC P ops N D (doneEnv (leans x done) ++ l) cur x R ∧
      (∀ v w', R v w' → Chg S cur w' ∧ HoldAll (keepP ks pins) w') ∧ ∀ v w', R v w' → DrawT P ops N D l S o eff K ((n, x.dst, v) :: done) w' (keepP ks pins)) ∧ StepAll P ops N D l S o eff K done cur pins r
theorem StepAll.mem {done : Done} {cur : World} {pins : Pins} : ∀ {ns : List Nat}, StepAll P ops N D l S o eff K done cur pins ns → ∀ n, n ∈ ns → ∃ (x : Oper) (R : Value → World → Prop) (ks : List Nat), o[n]? = some x ∧ pins.all (fun j => (ancB o (edgesB x)).any (Nat.beq j.1) || ks.any (Nat.beq j.1)) = true ∧ OpC P ops N D (doneEnv (leans x done) ++ l) cur x R ∧
      (∀ v w', R v w' → Chg S cur w' ∧ HoldAll (keepP ks pins) w') ∧ ∀ v w', R v w' → DrawT P ops N D l S o eff K ((n, x.dst, v) :: done) w' (keepP ks pins)
  | m :: r, h, n, hn => by
    rcases List.mem_cons.1 hn with rfl | hn
    · exact h.1
    · exact StepAll.mem h.2 n hn
theorem DrawT.many {done : Done} {cur : World} {pins : Pins} {ns : List Nat} (hn : enabledB o eff done = ns) (hne : ns.isEmpty = false) (hc : closedB o eff done = true) (h : StepAll P ops N D l S o eff K done cur pins ns) : DrawT P ops N D l S o eff K done cur pins := by
  subst hn
  have h4 : ∀ n : Nat, ∃ (x : Oper) (R : Value → World → Prop) (ks : List Nat), n ∈ enabledB o eff done → o[n]? = some x ∧ pins.all (fun j => (ancB o (edgesB x)).any (Nat.beq j.1) || ks.any (Nat.beq j.1)) = true ∧ OpC P ops N D (doneEnv (leans x done) ++ l) cur x R ∧
      (∀ v w', R v w' → Chg S cur w' ∧ HoldAll (keepP ks pins) w') ∧ ∀ v w', R v w' → DrawT P ops N D l S o eff K ((n, x.dst, v) :: done) w' (keepP ks pins) := fun n => by
    by_cases hn : n ∈ enabledB o eff done
    · obtain ⟨x, R, ks, h⟩ := h.mem n hn
      exact ⟨x, R, ks, fun _ => h⟩
    · exact ⟨default, fun _ _ => True, [], fun h => absurd h hn⟩
  obtain ⟨X, h5⟩ := Classical.axiomOfChoice h4
  obtain ⟨R, h5⟩ := Classical.axiomOfChoice h5
  obtain ⟨ks, h6⟩ := Classical.axiomOfChoice h5
  exact DrawT.step X R ks hc hne (fun n hn => ⟨(h6 n hn).1, (h6 n hn).2.1, (h6 n hn).2.2.1, (h6 n hn).2.2.2.1⟩) (fun n hn => (h6 n hn).2.2.2.2)
/-- One of two. -/
theorem DrawT.two {done : Done} {cur : World} {pins : Pins} {n m : Nat} {x y : Oper} {R R' : Value → World → Prop} (ks ks' : List Nat) (hn : enabledB o eff done = [n, m]) (hnm : Nat.beq m n = false) (hx : o[n]? = some x) (hy : o[m]? = some y) (hc : closedB o eff done = true)
    (hp : pins.all (fun j => (ancB o (edgesB x)).any (Nat.beq j.1) || ks.any (Nat.beq j.1)) = true) (hp' : pins.all (fun j => (ancB o (edgesB y)).any (Nat.beq j.1) || ks'.any (Nat.beq j.1)) = true)
    (h : OpC P ops N D (doneEnv (leans x done) ++ l) cur x R) (hS : ∀ v w', R v w' → Chg S cur w' ∧ HoldAll (keepP ks pins) w') (h' : OpC P ops N D (doneEnv (leans y done) ++ l) cur y R') (hS' : ∀ v w', R' v w' → Chg S cur w' ∧ HoldAll (keepP ks' pins) w')
    (k : ∀ v w', R v w' → DrawT P ops N D l S o eff K ((n, x.dst, v) :: done) w' (keepP ks pins)) (k' : ∀ v w', R' v w' → DrawT P ops N D l S o eff K ((m, y.dst, v) :: done) w' (keepP ks' pins)) : DrawT P ops N D l S o eff K done cur pins := by
  have hne : m ≠ n := fun e => by subst e; simp at hnm
  have key : ∀ j, j ∈ enabledB o eff done → j = n ∨ (j = m ∧ j ≠ n) := fun j hj => by
    rw [hn] at hj
    rcases List.mem_cons.1 hj with e | hj
    · exact .inl e
    · rw [List.mem_singleton] at hj; subst hj; exact .inr ⟨rfl, hne⟩
  refine DrawT.step (fun j => if j = n then x else y) (fun j => if j = n then R else R') (fun j => if j = n then ks else ks') hc (by rw [hn]; rfl) (fun j hj => ?_) (fun j hj => ?_)
  · rcases key j hj with rfl | ⟨rfl, hj⟩
    · simp only [if_true]; exact ⟨hx, hp, h, hS⟩
    · simp only [if_neg hj]; exact ⟨hy, hp', h', hS'⟩
  · rcases key j hj with rfl | ⟨rfl, hj⟩
    · simp only [if_true]; exact k
    · simp only [if_neg hj]; exact k'
/-- A load: what it gives stands while the cell does. -/
theorem DrawT.pinL {done : Done} {cur : World} {pins : Pins} (n : Nat) {t : TypeId} {x : Operand} {a : Addr} {v : Value} (hx : o[n]? = some ⟨d, .load t x, ty, pos, af, none⟩) (hq : (isEff eff n || inDone done n) = false) (ha : ∀ w, (isAgg t).run P w = .ok false w)
    (hxv : ev (doneEnv (leans ⟨d, .load t x, ty, pos, af, none⟩ done) ++ l) x = some (.pointer (some a))) (hc : cur.cell? a = some v) (k : DrawT P ops N D l S o eff K ((n, d, v) :: done) cur ((n, fun w1 => w1.cell? a = some v) :: pins)) : DrawT P ops N D l S o eff K done cur pins :=
  DrawT.pin n hx hq (fun _ hc => OpOk.r (R.load1 ha hxv hc) rfl) hc k
theorem DrawT.pinA {done : Done} {cur : World} {pins : Pins} (n : Nat) {t : TypeId} {x : Operand} {b p m : Nat} {cs : List Value} (hx : o[n]? = some ⟨d, .load t x, ty, pos, af, none⟩) (hq : (isEff eff n || inDone done n) = false) (ha : ∀ w, (isAgg t).run P w = .ok true w) (hz : ∀ w, (sizeOf t).run P w = .ok m w)
    (hxv : ev (doneEnv (leans ⟨d, .load t x, ty, pos, af, none⟩ done) ++ l) x = some (.pointer (some ⟨b, p, none⟩))) (hc : CellsAt cur b p cs) (hm : cs.length = m) (k : DrawT P ops N D l S o eff K ((n, d, .agg cs.toArray) :: done) cur ((n, fun w1 => CellsAt w1 b p cs) :: pins)) : DrawT P ops N D l S o eff K done cur pins :=
  DrawT.pin n hx hq (fun _ hc => OpOk.r (R.loadA ha hz hxv hc hm) rfl) hc k

theorem Eff.call {fo : Operand} {args : Array Operand} {at_ : Array TypeId} {f : FuncId} {fst caps : Array Value} {vs : List Value} {R : Value → World → Prop} (hf : ev l fo = some (.func (.func f) fst caps)) (ha : evs l args.toList = some vs)
    (he : Ent P f) (hR : Ret P f (fst.toList ++ vs ++ caps.toList) w R) : Eff P N D l w ⟨d, .call { callee := .value fo, args := args, argTypes := at_ }, ty, pos, af, gd⟩ R := fun T _ hs => by
  have hargs : args.map (Act.eval ⟨T, D⟩) = vs.toArray := by rw [← evs_eval hs ha, ← Array.toList_map, Array.toArray_toList]
  have heq : fst ++ vs.toArray ++ caps = (fst.toList ++ vs ++ caps.toList).toArray := by apply Array.ext'; simp
  refine .inr (.inr ⟨f, (fst.toList ++ vs ++ caps.toList).toArray, ?_, hR⟩)
  simp only [execOp, Sem.run_bind, run_resolve_value (ev_eval hs hf), Result.andThen_ok, hargs, invoke, he _ _, heq]
theorem Eff.store {t : TypeId} {x y : Operand} {b o n : Nat} {v : Value} {T : TypeId} {cs : List Value} (hz : ∀ w, (sizeOf t).run P w = .ok n w) (hx : ev l x = some (.pointer (some ⟨b, o, none⟩))) (hy : ev l y = some v)
    (hb : Blk w b T cs) (hn : v.cells.size = n) (hl : o + n ≤ cs.length) (h1 : ∀ u ∈ v.cells.toList, u.oneCell' = true) :
    Eff P N D l w ⟨none, .store t x y, ty, pos, af, gd⟩ fun u w' => u = undef ∧ Blk w' b T (splice cs o v.cells.toList) ∧ Chg (fun k => k = b) w w' ∧ w'.heap.size = w.heap.size := fun T _ hs => by
  subst hn
  obtain ⟨w', hr, hb', hg, hs'⟩ := run_storeCells (P := P) (vs := v.cells.toList) o 0 hb (by simpa using hl) h1
  refine .inr (.inl ⟨undef, w', ⟨rfl, hb', hg, hs'⟩, ?_, rfl⟩)
  simp only [execOp, ev_eval hs hx, ev_eval hs hy, Instr.storeAt, Instr.sureAddr, Sem.run_bind, Sem.run_pure, Result.andThen_ok, storeVar, hz, ne_eq, not_true_eq_false, if_false, hr]
theorem Eff.alloc {t : TypeId} {z : Value} (hz : ∀ w, (zeroValue t).run P w = .ok z w) :
    Eff P N D l w ⟨d, .alloc t, ty, pos, af, gd⟩ fun v w' => ∃ b, v = .pointer (some ⟨b, 0, none⟩) ∧ b = w.heap.size ∧ w'.heap.size = b + 1 ∧ Ext w w' ∧ Blk w' b t z.cells.toList := fun T _ hs =>
  .inl ⟨.pointer (some ⟨w.heap.size, 0, none⟩), w.alloc (.cells z.cells.toList.toArray t), ⟨w.heap.size, rfl, rfl, by simp, Ext.alloc _ _, Blk.new w t z.cells.toList⟩, by
    simp only [execOp, Instr.alloc, Sem.run_bind, hz, Result.andThen_ok, newVar, newRow, newObj]
    rfl⟩
theorem Eff.box {t : TypeId} {x : Operand} {v : Value} (hx : ev l x = some v) :
    Eff P N D l w ⟨d, .box t x, ty, pos, af, gd⟩ fun u w' => ∃ b, u = .pointer (some ⟨b, 0, none⟩) ∧ b = w.heap.size ∧ w'.heap.size = b + 1 ∧ Ext w w' ∧ Blk w' b t v.cells.toList := fun T _ hs =>
  .inl ⟨.pointer (some ⟨w.heap.size, 0, none⟩), w.alloc (.cells v.cells.toList.toArray t), ⟨w.heap.size, rfl, rfl, by simp, Ext.alloc _ _, Blk.new w t v.cells.toList⟩, by
    simp only [execOp, ev_eval hs hx, Instr.box, Sem.run_bind, newVar, newRow, newObj]
    rfl⟩

theorem Eff.buildSl {t e : TypeId} {n m : Nat} {parts : Array (Nat × Operand)} {z : Value} {vs : List Value} (ht : P.underlying t = some (.slice e)) (hz : ∀ w, (sizeOf e).run P w = .ok m w)
    (hz0 : ∀ w, (zeroValue e).run P w = .ok z w) (h24 : Nat.ble (n * m) 16777216 = true) (hm : Nat.beq (n * m) 0 = false)
    (hi : parts.toList.map (·.1) = List.range' 0 n) (hv : evs l (parts.toList.map (·.2)) = some vs) (hs : ∀ v ∈ vs, v.cells.size = m) :
    Eff P N D l w ⟨d, .buildSlice t n parts, ty, pos, af, gd⟩ fun v w' => ∃ b, v = .slice (some ⟨b, 0, none⟩) n n ∧ b = w.heap.size ∧ w'.heap.size = b + 1 ∧ Ext w w' ∧ Blk w' b e (vs.flatMap fun v => v.cells.toList) := fun T _ hsl =>
  .inl ⟨_, _, ⟨w.heap.size, rfl, rfl, by simp, Ext.alloc _ _, Blk.new w e _⟩, run_buildSl ht hz hz0 h24 hm hi hv hs hsl⟩
theorem Eff.append {α : Type} {enc : α → List Value} {size base bytes : Nat} (henc : ∀ x, (enc x).length = size) (h1 : ∀ x, ∀ u ∈ enc x, u.oneCell' = true) {s x : Operand} {t e : TypeId} {z : Value} (ht : P.underlying t = some (.slice e))
    (hinfo : (P.info? e).map (fun i => (i.zero, i.size, i.bytes)) = some (some z, size, bytes)) (hzs : z.cells.size = size) (hsz : Nat.blt 0 size = true) {v xv : Value} {xs ys : List α} (hs : ev l s = some v) (hx : ev l x = some xv) (hown : Own enc size base e w v xs) (hr : RSl (REnc enc) size w xv ys)
    (h63 : xs.length + ys.length ≤ 9223372036854775807) (hb : (xs.length + ys.length) * bytes ≤ 140737488355328) (hbase : base ≤ w.heap.size) :
    Eff P N D l w ⟨d, .call { callee := .builtin .append, args := #[s, x], argTypes := #[t, t] }, ty, pos, af, gd⟩ fun v' w' => Own enc size base e w' v' (xs ++ ys) ∧ Chg (fun k => v.ownBlock = some k) w w' ∧ (v'.ownBlock = v.ownBlock ∨ v'.ownBlock = some w.heap.size) := fun T _ hsl => by
  obtain ⟨v', w', g1, g2, g3, g4⟩ := run_append (P := P) (ty := ty) henc h1 ht hinfo hzs hsz hown hr h63 hb hbase
  refine .inl ⟨v', w', ⟨g2, g3, g4⟩, ?_⟩
  simp only [execOp, resolve, invoke, builtin, Sem.run_bind, Sem.run_pure, Result.andThen_ok, List.map_toArray, List.map_cons, List.map_nil, ev_eval hsl hs, ev_eval hsl hx, g1]

/-- In a region whose order is plain. -/
theorem St.turn {x : Oper} {R : Value → World → Prop} (h : Eff P N D l w x R) (hg : x.guard = none) (hN : dstOk N x.dst = true) (k : ∀ v w', R v w' → St N D (putE x.dst v l) (wpl ro P ops Q rest) w') : St N D l (wpl ro P ops Q (x :: rest)) w := by
  intro T hT hs
  refine wpl_plain hg fun K hK => ?_
  rcases h T hT hs with ⟨v, w', hR, hr⟩ | ⟨v, w', hR, hr, hn⟩ | ⟨f, args, hr, hcall⟩
  · obtain ⟨T', h1, h2, h3⟩ := hs.putE (D := D) (d := x.dst) (by rw [hT]; exact hN) v
    refine opr_value hr ?_
    rw [h1]
    exact hK _ _ (k v w' hR T' (h2.trans hT) h3)
  · refine opr_skip hr ?_
    rw [hn]
    have := k v w' hR
    rw [hn] at this
    exact hK _ _ (this T hT hs)
  · refine opr_enter hr (Calls.mono hcall ?_)
    rintro e w' ⟨v, rfl, hR⟩
    refine ⟨v, rfl, ?_⟩
    obtain ⟨T', h1, h2, h3⟩ := hs.putE (D := D) (d := x.dst) (by rw [hT]; exact hN) v
    simp only [h1]
    exact hK _ _ (k v w' hR T' (h2.trans hT) h3)
end
end Go.Proofs.YtjgcmpondbocfaaGreatDoor
