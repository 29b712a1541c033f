/- What the operations that turn the world come to, for a region whose order is open. No condition. -/
import Derived.Test.YtjgcmpondbocfaaDrawT
import Derived.Test.YtjgcmpondbocfaaSlices
namespace Go.Proofs.Ytjgcmpondbocfaa
open Go.RowKit

section
variable {ro : Option Nat} {P : Program} {N : Nat} {D : List Deferred} {l : Env} {w : World} {Q : Exit → Act → World → Prop} {S : Nat → Prop} {o : List Oper} {eff : List Nat} {K : Env → World → Prop} {ops : Array Oper} {rest : List Oper}
variable {d : Option Tmp} {ty : TypeId} {pos : String} {af : Array Edge} {gd : Option (Nat × Bool)}

theorem OpC.plain {x : Oper} {R : Value → World → Prop} (h : Eff P N D l w x R) (hg : x.guard = none) : OpC P ops N D l w x R := ⟨h, fun T _ _ => by simp [Region.wanted, hg]⟩
theorem OpC.taken {x : Oper} {R : Value → World → Prop} {g dg : Nat} {b : Bool} (h : Eff P N D l w x R) (hg : x.guard = some (g, b)) (hd : (ops[g]?).bind (·.dst) = some dg) (hb : look l dg = some (.bool b)) (hN : Nat.blt dg N = true) : OpC P ops N D l w x R := by
  refine ⟨h, fun T hT hs => ?_⟩
  have h1 := hs _ _ hb
  have hlt : dg + 1 ≤ T.size := by rw [hT]; simpa [Nat.blt] using hN
  have h2 : T[dg]? = some (.bool b) := by
    rw [Array.getD_eq_getD_getElem?] at h1
    rw [Array.getElem?_eq_getElem hlt] at h1 ⊢
    simpa using h1
  simp [Region.wanted, yielded, hg, hd, h2]
/-- One alone may come next. -/
theorem DrawT.one {done : Done} {cur : World} {pins : List Nat} {n : Nat} {x : Oper} {R : Value → World → Prop} (hn : enabledB o eff done = [n]) (hx : o[n]? = some x) (hc : closedB o eff done = true) (hp : pins.all (fun j => (edgesB x).any (Nat.beq j)) = true)
    (h : OpC P ops N D (doneEnv (leans x done) ++ l) cur x R) (hS : ∀ v w', R v w' → Chg S cur w') (k : ∀ v w', R v w' → DrawT P ops N D l S o eff K ((n, x.dst, v) :: done) w' []) : DrawT P ops N D l S o eff K done cur pins :=
  DrawT.step (fun _ => x) (fun _ => R) hc (by rw [hn]; rfl) (fun m hm => by rw [hn, List.mem_singleton] at hm; subst hm; exact ⟨hx, hp, h, hS⟩) (fun m hm => by rw [hn, List.mem_singleton] at hm; subst hm; exact k)
/-- One of two. -/
theorem DrawT.two {done : Done} {cur : World} {pins : List Nat} {n m : Nat} {x y : Oper} {R R' : Value → World → Prop} (hn : enabledB o eff done = [n, m]) (hnm : Nat.beq m n = false) (hx : o[n]? = some x) (hy : o[m]? = some y) (hc : closedB o eff done = true) (hp : pins.all (fun j => (edgesB x).any (Nat.beq j)) = true) (hp' : pins.all (fun j => (edgesB y).any (Nat.beq j)) = true)
    (h : OpC P ops N D (doneEnv (leans x done) ++ l) cur x R) (hS : ∀ v w', R v w' → Chg S cur w') (h' : OpC P ops N D (doneEnv (leans y done) ++ l) cur y R') (hS' : ∀ v w', R' v w' → Chg S cur w')
    (k : ∀ v w', R v w' → DrawT P ops N D l S o eff K ((n, x.dst, v) :: done) w' []) (k' : ∀ v w', R' v w' → DrawT P ops N D l S o eff K ((m, y.dst, v) :: done) w' []) : DrawT P ops N D l S o eff K done cur pins := by
  have hne : m ≠ n := fun e => by subst e; simp at hnm
  have key : ∀ j, j ∈ enabledB o eff done → j = n ∨ (j = m ∧ j ≠ n) := fun j hj => by
    rw [hn] at hj
    rcases List.mem_cons.1 hj with e | hj
    · exact .inl e
    · rw [List.mem_singleton] at hj; subst hj; exact .inr ⟨rfl, hne⟩
  refine DrawT.step (fun j => if j = n then x else y) (fun j => if j = n then R else R') hc (by rw [hn]; rfl) (fun j hj => ?_) (fun j hj => ?_)
  · rcases key j hj with rfl | ⟨rfl, hj⟩
    · simp only [if_true]; exact ⟨hx, hp, h, hS⟩
    · simp only [if_neg hj]; exact ⟨hy, hp', h', hS'⟩
  · rcases key j hj with rfl | ⟨rfl, hj⟩
    · simp only [if_true]; exact k
    · simp only [if_neg hj]; exact k'

theorem Eff.call {fo : Operand} {args : Array Operand} {at_ : Array TypeId} {f : FuncId} {fst caps : Array Value} {vs : List Value} {R : Value → World → Prop} (hf : ev l fo = some (.func (.func f) fst caps)) (ha : evs l args.toList = some vs)
    (he : Ent P f) (hR : Ret P f (fst.toList ++ vs ++ caps.toList) w R) : Eff P N D l w ⟨d, .call { callee := .value fo, args := args, argTypes := at_ }, ty, pos, af, gd⟩ R := fun T _ hs => by
  have hargs : args.map (Act.eval ⟨T, D⟩) = vs.toArray := by rw [← evs_eval hs ha, ← Array.toList_map, Array.toArray_toList]
  have heq : fst ++ vs.toArray ++ caps = (fst.toList ++ vs ++ caps.toList).toArray := by apply Array.ext'; simp
  refine .inr (.inr ⟨f, (fst.toList ++ vs ++ caps.toList).toArray, ?_, hR⟩)
  simp only [execOp, Sem.run_bind, run_resolve_value (ev_eval hs hf), Result.andThen_ok, hargs, invoke, he _ _, heq]
theorem Eff.store {t : TypeId} {x y : Operand} {b o n : Nat} {v : Value} {T : TypeId} {cs : List Value} (hz : ∀ w, (sizeOf t).run P w = .ok n w) (hx : ev l x = some (.pointer (some ⟨b, o, none⟩))) (hy : ev l y = some v)
    (hb : Blk w b T cs) (hn : v.cells.size = n) (hl : o + n ≤ cs.length) (h1 : ∀ u ∈ v.cells.toList, u.oneCell' = true) :
    Eff P N D l w ⟨none, .store t x y, ty, pos, af, gd⟩ fun u w' => u = undef ∧ Blk w' b T (splice cs o v.cells.toList) ∧ Chg (fun k => k = b) w w' ∧ w'.heap.size = w.heap.size := fun T _ hs => by
  subst hn
  obtain ⟨w', hr, hb', hg, hs'⟩ := run_storeCells (P := P) (vs := v.cells.toList) o 0 hb (by simpa using hl) h1
  refine .inr (.inl ⟨undef, w', ⟨rfl, hb', hg, hs'⟩, ?_, rfl⟩)
  simp only [execOp, ev_eval hs hx, ev_eval hs hy, Instr.storeAt, Instr.sureAddr, Sem.run_bind, Sem.run_pure, Result.andThen_ok, storeVar, hz, ne_eq, not_true_eq_false, if_false, hr]
theorem Eff.alloc {t : TypeId} {z : Value} (hz : ∀ w, (zeroValue t).run P w = .ok z w) :
    Eff P N D l w ⟨d, .alloc t, ty, pos, af, gd⟩ fun v w' => ∃ b, v = .pointer (some ⟨b, 0, none⟩) ∧ b = w.heap.size ∧ w'.heap.size = b + 1 ∧ Ext w w' ∧ Blk w' b t z.cells.toList := fun T _ hs =>
  .inl ⟨.pointer (some ⟨w.heap.size, 0, none⟩), w.alloc (.cells z.cells.toList.toArray t), ⟨w.heap.size, rfl, rfl, by simp, Ext.alloc _ _, Blk.new w t z.cells.toList⟩, by
    simp only [execOp, Instr.alloc, Sem.run_bind, hz, Result.andThen_ok, newVar, newRow, newObj]
    rfl⟩
theorem Eff.box {t : TypeId} {x : Operand} {v : Value} (hx : ev l x = some v) :
    Eff P N D l w ⟨d, .box t x, ty, pos, af, gd⟩ fun u w' => ∃ b, u = .pointer (some ⟨b, 0, none⟩) ∧ b = w.heap.size ∧ w'.heap.size = b + 1 ∧ Ext w w' ∧ Blk w' b t v.cells.toList := fun T _ hs =>
  .inl ⟨.pointer (some ⟨w.heap.size, 0, none⟩), w.alloc (.cells v.cells.toList.toArray t), ⟨w.heap.size, rfl, rfl, by simp, Ext.alloc _ _, Blk.new w t v.cells.toList⟩, by
    simp only [execOp, ev_eval hs hx, Instr.box, Sem.run_bind, newVar, newRow, newObj]
    rfl⟩

/-- In a region whose order is plain. -/
theorem St.turn {x : Oper} {R : Value → World → Prop} (h : Eff P N D l w x R) (hg : x.guard = none) (hN : dstOk N x.dst = true) (k : ∀ v w', R v w' → St N D (putE x.dst v l) (wpl ro P ops Q rest) w') : St N D l (wpl ro P ops Q (x :: rest)) w := by
  intro T hT hs
  refine wpl_plain hg fun K hK => ?_
  rcases h T hT hs with ⟨v, w', hR, hr⟩ | ⟨v, w', hR, hr, hn⟩ | ⟨f, args, hr, hcall⟩
  · obtain ⟨T', h1, h2, h3⟩ := hs.putE (D := D) (d := x.dst) (by rw [hT]; exact hN) v
    refine opr_value hr ?_
    rw [h1]
    exact hK _ _ (k v w' hR T' (h2.trans hT) h3)
  · refine opr_skip hr ?_
    rw [hn]
    have := k v w' hR
    rw [hn] at this
    exact hK _ _ (this T hT hs)
  · refine opr_enter hr (Calls.mono hcall ?_)
    rintro e w' ⟨v, rfl, hR⟩
    refine ⟨v, rfl, ?_⟩
    obtain ⟨T', h1, h2, h3⟩ := hs.putE (D := D) (d := x.dst) (by rw [hT]; exact hN) v
    simp only [h1]
    exact hK _ _ (k v w' hR T' (h2.trans hT) h3)
end
end Go.Proofs.Ytjgcmpondbocfaa
