/- Bytes: an empty slice built, a string appended, bytes as a string. No condition. -/
import Derived.Test.YtjgcmpondbocfaaGreatDoorMore
import Derived.Lib.AppendStr
import Derived.Lib.SlBytesRow
import Derived.Laws.Cover3
import Derived.Laws.StructEq
namespace Go.Proofs.YtjgcmpondbocfaaGreatDoor
open Go.RowKit Go.Lib

section
variable {ro : Option Nat} {P : Program} {N : Nat} {D : List Deferred} {l : Env} {w : World} {Q : Exit → Act → World → Prop} {ops : Array Oper} {rest : List Oper}
variable {d : Option Tmp} {ty : TypeId} {pos : String} {af : Array Edge} {gd : Option (Nat × Bool)}

theorem run_buildSl0 {t e : TypeId} {m : Nat} (ht : P.underlying t = some (.slice e)) (hz : ∀ w, (sizeOf e).run P w = .ok m w) {T : Array Value} :
    (execOp (Act.eval ⟨T, D⟩) ⟨d, .buildSlice t 0 #[], ty, pos, af, gd⟩).run P w = .ok (.value (.slice (some ⟨w.heap.size, 0, none⟩) 0 0)) (w.alloc (.cells (List.toArray []) e)) := by
  simp [execOp, Instr.buildSlice, run_underlying ht, hz, Sem.run_bind, Sem.run_pure, Instr.fill, newRow, newObj]
  have h0 : ∀ f : Nat → Value, Array.map f (Array.range 0) = #[] := fun f => by apply Array.ext'; simp [Array.toList_range]
  rw [h0]; rfl
theorem St.buildSl0 {t e : TypeId} {m : Nat} (ht : P.underlying t = some (.slice e)) (hz : ∀ w, (sizeOf e).run P w = .ok m w) (hN : dstOk N d = true)
    (k : ∀ w' b, b = w.heap.size → w'.heap.size = b + 1 → Ext w w' → Blk w' b e [] → St N D (putE d (.slice (some ⟨b, 0, none⟩) 0 0) l) (wpl ro P ops Q rest) w') :
    St N D l (wpl ro P ops Q (⟨d, .buildSlice t 0 #[], ty, pos, af, none⟩ :: rest)) w :=
  St.val rfl hN (fun T _ _ => run_buildSl0 ht hz) (k _ w.heap.size rfl (by simp) (Ext.alloc _ _) (Blk.new w e []))
theorem Own.empty {α : Type} {enc : α → List Value} {size base : Nat} {e : TypeId} {w : World} {b : Nat} (h : Blk w b e []) (hb : base ≤ b) : Own enc size base e w (.slice (some ⟨b, 0, none⟩) 0 0) ([] : List α) :=
  ⟨by simp, .inr ⟨b, 0, #[], rfl, hb, h, Nat.le_refl _, by simp [maxLen], by simp, by simp⟩⟩

/-! ### a slice that is nil; structs that are alike -/
theorem run_eqGuard_sl (P : Program) (w : World) (op : BinOp) (t : TypeId) (x y : Operand) (A : Option Addr) (n c : Nat) : (eqGuard op t x y (.slice A n c) (.slice none 0 0)).run P w = .ok () w := by
  cases op <;> simp [eqGuard] <;> rfl
theorem R.eqNilSl {t t' e : TypeId} {x : Operand} {A : Option Addr} {n c : Nat} (ht : P.underlying t = some (.slice e)) (hx : ev l x = some (.slice A n c)) : Runs P N D l w ⟨d, .binOp .eql t x (.const (.slice none 0 0)) t', ty, pos, af, gd⟩ (.bool A.isNone) w :=
  R.bin hx rfl (run_eqGuard_sl ..) (by simp only [binOp]; simp [run_equal_slice_nil w t e A n c ht])
theorem R.neAgg {t t' : TypeId} {x y : Operand} {xs ys : Array Value} {b : Bool} (hg : P.eqGuardType P.depth t = false) (hq : ∀ w, (Op.equalIn 10000 t (.agg xs) (.agg ys)).run P w = .ok b w) (hx : ev l x = some (.agg xs)) (hy : ev l y = some (.agg ys)) :
    Runs P N D l w ⟨d, .binOp .neq t x y t', ty, pos, af, gd⟩ (.bool (!b)) w :=
  R.bin hx hy (run_eqGuard_agg w _ _ _ _ _ _ hg) (by rw [run_neq_struct, hq]; rfl)

/-! ### a result that stands in a cell -/
theorem run_loadVarA {ct : TypeId} {b o n : Nat} {cs : List Value} (ha : ∀ w, (isAgg ct).run P w = .ok true w) (hz : ∀ w, (sizeOf ct).run P w = .ok n w) (hc : CellsAt w b o cs) (hn : cs.length = n) :
    (loadVar ct ⟨b, o, none⟩).run P w = .ok (.agg cs.toArray) w := by
  subst hn
  have h := run_loadCellsFrom (P := P) (b := b) (o := o) (cs := cs) 0 #[] hc
  simp only [Sem.run_bind, Sem.run_pure, Result.andThen_ok, loadVar, ha, if_true, hz, loadCells, h]
  simp
theorem St.retA {fn : Func} {t : Tmp} {ct : TypeId} {b o n : Nat} {cs : List Value} {R : Ending → World → Prop} (hr : fn.results = #[.cell t ct]) (ha : ∀ w, (isAgg ct).run P w = .ok true w) (hz : ∀ w, (sizeOf ct).run P w = .ok n w)
    (hv : look l t = some (.pointer (some ⟨b, o, none⟩))) (hc : CellsAt w b o cs) (hn : cs.length = n) (h : R (.returned (.agg cs.toArray)) w) : St N [] l (bodyPost P fn R .ret) w :=
  fun T _ hs => by
    refine bodyPost_ret (v := .agg cs.toArray) ?_ rfl h
    have e := hs _ _ hv
    rw [Array.getD_eq_getD_getElem?] at e
    simp [results, hr, e, asAddr, run_loadVarA ha hz hc hn]
theorem St.retAE {fn : Func} {t u : Tmp} {ct : TypeId} {b o n : Nat} {cs : List Value} {x : Value} {R : Ending → World → Prop} (hr : fn.results = #[.cell t ct, .tmp u]) (ha : ∀ w, (isAgg ct).run P w = .ok true w) (hz : ∀ w, (sizeOf ct).run P w = .ok n w)
    (hv : look l t = some (.pointer (some ⟨b, o, none⟩))) (hx : look l u = some x) (hc : CellsAt w b o cs) (hn : cs.length = n) (h : R (.returned (.tuple #[.agg cs.toArray, x])) w) : St N [] l (bodyPost P fn R .ret) w :=
  fun T _ hs => by
    refine bodyPost_ret (v := .tuple #[.agg cs.toArray, x]) ?_ rfl h
    have e := hs _ _ hv
    have e2 := hs _ _ hx
    rw [Array.getD_eq_getD_getElem?] at e e2
    simp [results, hr, e, e2, asAddr, run_loadVarA ha hz hc hn]
end

/-! ### numbers as bytes; where an appended slice may stand -/
def Near (B : Nat) (v v' : Value) : Prop := ∀ k, v'.ownBlock = some k → v.ownBlock = some k ∨ B ≤ k
theorem Near.refl (B : Nat) (v : Value) : Near B v v := fun _ h => .inl h
theorem Near.step {B n : Nat} {v v' v'' : Value} (h : Near B v v') (hat : v''.ownBlock = v'.ownBlock ∨ v''.ownBlock = some n) (hn : B ≤ n) : Near B v v'' := fun k hk => by
  rcases hat with e | e
  · exact h k (e ▸ hk)
  · rw [e] at hk; injection hk with hk; subst hk; exact .inr hn
theorem Near.lower {B B' : Nat} {v v' : Value} (h : Near B v v') (hb : B' ≤ B) : Near B' v v' := fun k hk => (h k hk).imp id (Nat.le_trans hb)
theorem Near.trans {B B' : Nat} {v v' v'' : Value} (h : Near B v v') (k : Near B' v' v'') (hb : B ≤ B') : Near B v v'' := fun j hj => (k j hj).elim (h j) (fun h => .inr (Nat.le_trans hb h))
end Go.Proofs.YtjgcmpondbocfaaGreatDoor
