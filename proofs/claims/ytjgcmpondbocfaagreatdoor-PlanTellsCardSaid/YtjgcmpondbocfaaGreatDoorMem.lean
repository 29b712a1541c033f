/- Memory: what a change leaves, what a block holds; loads, stores, new blocks, addresses, calls. No condition. -/
import Derived.Test.YtjgcmpondbocfaaGreatDoorOps
import Derived.Test.YtjgcmpondbocfaaGreatDoorDrawn
import Derived.Laws.NewBlocks
import Derived.Laws.OwnMore
import Derived.Maps.AppendAt
namespace Go.Proofs.YtjgcmpondbocfaaGreatDoor
open Go.RowKit

/-! ### 1. What a change leaves -/
/-- Of what was there only the blocks in S may have turned. -/
structure Chg (S : Nat → Prop) (w w' : World) : Prop where
  os : w'.os = w.os
  tape : w'.tape = w.tape
  output : w'.output = w.output
  size : w.heap.size ≤ w'.heap.size
  block : ∀ k, k < w.heap.size → ¬ S k → w'.heap[k]? = w.heap[k]?
  drew : w.drawn ≤ w'.drawn

abbrev Ext (w w' : World) : Prop := Chg (fun _ => False) w w'

theorem Chg.refl (S : Nat → Prop) (w : World) : Chg S w w := ⟨rfl, rfl, rfl, Nat.le_refl _, fun _ _ _ => rfl, Nat.le_refl _⟩
theorem Ext.refl (w : World) : Ext w w := Chg.refl _ w
theorem Chg.trans {S : Nat → Prop} {a b c : World} (h : Chg S a b) (k : Chg S b c) : Chg S a c :=
  ⟨k.os.trans h.os, k.tape.trans h.tape, k.output.trans h.output, Nat.le_trans h.size k.size, fun i hi hs => (k.block i (Nat.lt_of_lt_of_le hi h.size) hs).trans (h.block i hi hs), Nat.le_trans h.drew k.drew⟩
theorem Ext.trans {a b c : World} (h : Ext a b) (k : Ext b c) : Ext a c := Chg.trans h k
theorem Chg.mono {S S' : Nat → Prop} {a b : World} (h : Chg S a b) (hs : ∀ k, k < a.heap.size → S k → S' k) : Chg S' a b := ⟨h.os, h.tape, h.output, h.size, fun i hi hn => h.block i hi (fun x => hn (hs i hi x)), h.drew⟩
/-- A change behind an extension: what was written lies beyond the first world. -/
theorem Ext.then {S : Nat → Prop} {a b c : World} (h : Ext a b) (k : Chg S b c) (hs : ∀ j, j < a.heap.size → ¬ S j) : Ext a c :=
  ⟨k.os.trans h.os, k.tape.trans h.tape, k.output.trans h.output, Nat.le_trans h.size k.size, fun i hi _ => (k.block i (Nat.lt_of_lt_of_le hi h.size) (hs i hi)).trans (h.block i hi (fun x => x)), Nat.le_trans h.drew k.drew⟩
theorem Chg.then {S S' : Nat → Prop} {a b c : World} (h : Chg S a b) (k : Chg S' b c) (hs : ∀ j, j < a.heap.size → S' j → S j) : Chg S a c :=
  ⟨k.os.trans h.os, k.tape.trans h.tape, k.output.trans h.output, Nat.le_trans h.size k.size, fun i hi hn => (k.block i (Nat.lt_of_lt_of_le hi h.size) (fun x => hn (hs i hi x))).trans (h.block i hi hn), Nat.le_trans h.drew k.drew⟩
theorem Chg.below {S : Nat → Prop} {a b : World} (h : Chg S a b) {B : Nat} (hB : B ≤ a.heap.size) (hs : ∀ j, j < B → ¬ S j) : Below B a b :=
  ⟨h.os, h.tape, h.output, h.size, fun k hk => h.block k (by omega) (hs k hk)⟩
theorem Ext.below {a b : World} (h : Ext a b) : Below a.heap.size a b := Chg.below h (Nat.le_refl _) (fun _ _ x => x)

theorem Chg.of_grown {a b : World} {row : Option Nat} (h : a.grownBy b row) (hd : a.drawn ≤ b.drawn) : Chg (fun k => some k = row) a b := ⟨h.os, h.tape, h.output, h.size, fun k hk hn => h.block k hk hn, hd⟩
theorem Ext.alloc (w : World) (o : Obj) : Ext w (w.alloc o) := ⟨rfl, rfl, rfl, by simp, fun k hk _ => Below.heap_alloc w o k hk, Nat.le_refl _⟩
theorem Ext.drew (w : World) : Ext w w.drew := ⟨rfl, rfl, rfl, Nat.le_refl _, fun _ _ _ => rfl, Nat.le_succ _⟩

theorem Chg.cell {S : Nat → Prop} {w w' : World} (h : Chg S w w') {a : Addr} {v : Value} (hc : w.cell? a = some v) (hs : ¬ S a.block) : w'.cell? a = some v :=
  (World.cell?_of_block (w := w) (h.block a.block (World.block_lt_of_cell? w a hc) hs)).trans hc
theorem Ext.cell {w w' : World} (h : Ext w w') {a : Addr} {v : Value} (hc : w.cell? a = some v) : w'.cell? a = some v := Chg.cell h hc (fun x => x)

/-! ### 2. Cells in a row; a block that is known whole -/
def CellsAt (w : World) (b o : Nat) (cs : List Value) : Prop := ∀ i v, cs[i]? = some v → w.cell? ⟨b, o + i, none⟩ = some v
theorem Chg.cells {S : Nat → Prop} {w w' : World} (h : Chg S w w') {b o : Nat} {cs : List Value} (hc : CellsAt w b o cs) (hs : ¬ S b) : CellsAt w' b o cs := fun i v hv => h.cell (hc i v hv) hs
theorem Ext.cells {w w' : World} (h : Ext w w') {b o : Nat} {cs : List Value} (hc : CellsAt w b o cs) : CellsAt w' b o cs := Chg.cells h hc (fun x => x)
theorem CellsAt.at {w : World} {b o : Nat} {cs : List Value} (h : CellsAt w b o cs) (i : Nat) {v : Value} (hv : cs[i]? = some v) : w.cell? ⟨b, o + i, none⟩ = some v := h i v hv

def Blk (w : World) (b : Nat) (t : TypeId) (cs : List Value) : Prop := w.heap[b]? = some (.cells cs.toArray t (0, 0))
theorem Blk.lt {w : World} {b : Nat} {t : TypeId} {cs : List Value} (h : Blk w b t cs) : b < w.heap.size := by
  rcases Nat.lt_or_ge b w.heap.size with h1 | h1
  · exact h1
  · unfold Blk at h; rw [Array.getElem?_eq_none h1] at h; cases h
theorem Blk.cell {w : World} {b : Nat} {t : TypeId} {cs : List Value} (h : Blk w b t cs) (i : Nat) {v : Value} (hv : cs[i]? = some v) : w.cell? ⟨b, i, none⟩ = some v := by
  unfold Blk at h
  simp [World.cell?, h, hv]
theorem Blk.cells {w : World} {b : Nat} {t : TypeId} {cs : List Value} (h : Blk w b t cs) : CellsAt w b 0 cs := fun i v hv => by rw [Nat.zero_add]; exact h.cell i hv
theorem Blk.frozen {w : World} {b : Nat} {t : TypeId} {cs : List Value} (h : Blk w b t cs) (i : Nat) : w.frozen? ⟨b, i, none⟩ = false := by
  unfold Blk at h
  simp [World.frozen?, h]
theorem Blk.chg {S : Nat → Prop} {w w' : World} (c : Chg S w w') {b : Nat} {t : TypeId} {cs : List Value} (h : Blk w b t cs) (hs : ¬ S b) : Blk w' b t cs := (c.block b h.lt hs).trans h
theorem Blk.ext {w w' : World} (c : Ext w w') {b : Nat} {t : TypeId} {cs : List Value} (h : Blk w b t cs) : Blk w' b t cs := Blk.chg c h (fun x => x)
theorem Blk.new (w : World) (t : TypeId) (cs : List Value) : Blk (w.alloc (.cells cs.toArray t)) w.heap.size t cs := heap_alloc_new w _
theorem Blk.setCell {w : World} {b : Nat} {t : TypeId} {cs : List Value} (h : Blk w b t cs) (i : Nat) (u : Value) : Blk (w.setCell ⟨b, i, none⟩ u) b t (cs.set i u) := by
  unfold Blk at h ⊢
  simp [World.setCell, Array.getElem?_modify, h]
theorem Chg.setCell (w : World) (b i : Nat) (u : Value) : Chg (fun k => k = b) w (w.setCell ⟨b, i, none⟩ u) :=
  ⟨rfl, rfl, rfl, by simp [World.setCell], fun k _ hn => Below.heap_setCell w _ u k hn, Nat.le_refl _⟩

/-- 'vs' laid over 'cs' from place o on. -/
def splice (cs : List Value) (o : Nat) : List Value → List Value
  | [] => cs
  | v :: r => splice (cs.set o v) (o + 1) r
theorem splice_length (cs : List Value) (o : Nat) (vs : List Value) : (splice cs o vs).length = cs.length := by
  induction vs generalizing cs o with
  | nil => rfl
  | cons v r ih => simp only [splice, ih, List.length_set]

theorem splice_eq {cs vs : List Value} {o : Nat} (h : o + vs.length ≤ cs.length) : splice cs o vs = cs.take o ++ vs ++ cs.drop (o + vs.length) := by
  induction vs generalizing cs o with
  | nil => simp [splice]
  | cons v r ih =>
    simp only [List.length_cons] at h
    rw [splice, ih (by rw [List.length_set]; omega)]
    have h1 : (cs.set o v).take (o + 1) = cs.take o ++ [v] := by
      rw [List.take_succ_eq_append_getElem (by rw [List.length_set]; omega)]
      congr 1
      · rw [List.take_set_of_le (Nat.le_refl _)]
      · simp
    have h2 : (cs.set o v).drop (o + 1 + r.length) = cs.drop (o + (v :: r).length) := by
      rw [List.drop_set_of_lt (by omega), List.length_cons]
      congr 1; omega
    rw [h1, h2]
    simp
theorem splice_take {cs vs : List Value} {o n : Nat} (h : o + vs.length ≤ cs.length) (hn : n = o + vs.length) : (splice cs o vs).take n = cs.take o ++ vs := by
  subst hn
  rw [splice_eq h, List.take_left']
  rw [List.length_append, List.length_take]; omega
theorem add_lit (b o i : Nat) : (⟨b, o, none⟩ : Addr).add i = ⟨b, o + i, none⟩ := by unfold Addr.add; split <;> simp_all

section
variable {P : Program} {w : World}
theorem run_load {a : Addr} {v : Value} (h : w.cell? a = some v) : (Go.load a).run P w = .ok v w := by simp [Go.load, Sem.run, h]

theorem run_storeCells {b : Nat} {t : TypeId} : ∀ {vs cs : List Value} {w : World} (o i : Nat), Blk w b t cs → o + i + vs.length ≤ cs.length → (∀ v ∈ vs, v.oneCell' = true) →
    ∃ w', (storeCells ⟨b, o, none⟩ vs i).run P w = .ok () w' ∧ Blk w' b t (splice cs (o + i) vs) ∧ Chg (fun k => k = b) w w' ∧ w'.heap.size = w.heap.size
  | [], cs, w, o, i, hb, _, _ => ⟨w, rfl, hb, Chg.refl _ _, rfl⟩
  | v :: r, cs, w, o, i, hb, hl, h1 => by
    simp only [List.length_cons] at hl
    obtain ⟨u, hu⟩ : ∃ u, cs[o + i]? = some u := ⟨_, List.getElem?_eq_getElem (by omega)⟩
    have hc := hb.cell (o + i) hu
    obtain ⟨w', hr, hb', hg, hz⟩ := run_storeCells (vs := r) (o := o) (i := i + 1) (hb.setCell (o + i) v) (by rw [List.length_set]; omega) (fun x hx => h1 x (List.mem_cons_of_mem _ hx))
    refine ⟨w', ?_, hb', (Chg.setCell w b (o + i) v).trans hg, hz.trans (by simp [World.setCell])⟩
    have hs : (Go.store ((⟨b, o, none⟩ : Addr).add i) v).run P w = .ok () (w.setCell ⟨b, o + i, none⟩ v) := by
      rw [add_lit]
      have hv := h1 v List.mem_cons_self
      unfold Go.store
      cases v <;> first | (cases hv; done) | simp [Sem.run, hc, hb.frozen]
    simp only [storeCells, Sem.run_bind, hs, Result.andThen_ok]
    exact hr

theorem run_loadCellsFrom {b o : Nat} : ∀ {cs : List Value} (i : Nat) (acc : Array Value), CellsAt w b (o + i) cs → (loadCellsFrom ⟨b, o, none⟩ i cs.length acc).run P w = .ok (acc ++ cs.toArray) w
  | [], i, acc, _ => by simp [loadCellsFrom, Sem.run_pure]
  | v :: r, i, acc, h => by
    have h0 : w.cell? ((⟨b, o, none⟩ : Addr).add i) = some v := by rw [add_lit]; exact h 0 v rfl
    have hr : CellsAt w b (o + (i + 1)) r := fun j u hu => by
      have := h (j + 1) u (by simpa using hu)
      rwa [show o + i + (j + 1) = o + (i + 1) + j by omega] at this
    simp only [List.length_cons, loadCellsFrom, Sem.run_bind, run_load h0, Result.andThen_ok]
    rw [run_loadCellsFrom (i + 1) _ hr]
    simp
end

section
variable {ro : Option Nat} {P : Program} {N : Nat} {D : List Deferred} {l : Env} {w : World} {Q : Exit → Act → World → Prop} {ops : Array Oper} {rest : List Oper}
variable {d : Option Tmp} {ty : TypeId} {pos : String} {af : Array Edge} {gd : Option (Nat × Bool)}

/-! ### 3. Loads and stores -/
theorem R.load1 {t : TypeId} {x : Operand} {a : Addr} {v : Value} (ha : ∀ w, (isAgg t).run P w = .ok false w) (hx : ev l x = some (.pointer (some a))) (hc : w.cell? a = some v) : Runs P N D l w ⟨d, .load t x, ty, pos, af, gd⟩ v w :=
  fun T _ hs => (by
    simp only [execOp, ev_eval hs hx, Instr.loadAt, Instr.sureAddr, Sem.run_bind, Sem.run_pure, Result.andThen_ok, loadVar, ha, Bool.false_eq_true, if_false, run_load hc])
theorem R.loadA {t : TypeId} {x : Operand} {b o n : Nat} {cs : List Value} (ha : ∀ w, (isAgg t).run P w = .ok true w) (hz : ∀ w, (sizeOf t).run P w = .ok n w) (hx : ev l x = some (.pointer (some ⟨b, o, none⟩)))
    (hc : CellsAt w b o cs) (hn : cs.length = n) : Runs P N D l w ⟨d, .load t x, ty, pos, af, gd⟩ (.agg cs.toArray) w :=
  fun T _ hs => (by
    subst hn
    have h := run_loadCellsFrom (P := P) (b := b) (o := o) (cs := cs) 0 #[] hc
    simp only [execOp, ev_eval hs hx, Instr.loadAt, Instr.sureAddr, Sem.run_bind, Sem.run_pure, Result.andThen_ok, loadVar, ha, if_true, hz, loadCells, h]
    simp)
/-- A store into a block that is known whole. -/
theorem St.store {t : TypeId} {x y : Operand} {b o n : Nat} {v : Value} {T : TypeId} {cs : List Value} (hz : ∀ w, (sizeOf t).run P w = .ok n w) (hx : ev l x = some (.pointer (some ⟨b, o, none⟩))) (hy : ev l y = some v)
    (hb : Blk w b T cs) (hn : v.cells.size = n) (hl : o + n ≤ cs.length) (h1 : ∀ u ∈ v.cells.toList, u.oneCell' = true)
    (k : ∀ w', Blk w' b T (splice cs o v.cells.toList) → Chg (fun k => k = b) w w' → w'.heap.size = w.heap.size → St N D l (wpl ro P ops Q rest) w') :
    St N D l (wpl ro P ops Q (⟨none, .store t x y, ty, pos, af, none⟩ :: rest)) w := by
  subst hn
  obtain ⟨w', hr, hb', hg, hs'⟩ := run_storeCells (P := P) (vs := v.cells.toList) o 0 hb (by simpa using hl) h1
  refine St.unit rfl rfl (w' := w') (fun T _ hs => ?_) (k w' hb' hg hs')
  simp only [execOp, ev_eval hs hx, ev_eval hs hy, Instr.storeAt, Instr.sureAddr, Sem.run_bind, Sem.run_pure, Result.andThen_ok, storeVar, hz, ne_eq, not_true_eq_false, if_false, hr]

/-! ### 4. New blocks -/
theorem St.alloc {t : TypeId} {z : Value} (hz : ∀ w, (zeroValue t).run P w = .ok z w) (hN : dstOk N d = true)
    (k : ∀ w' b, b = w.heap.size → w'.heap.size = b + 1 → Ext w w' → Blk w' b t z.cells.toList → St N D (putE d (.pointer (some ⟨b, 0, none⟩)) l) (wpl ro P ops Q rest) w') :
    St N D l (wpl ro P ops Q (⟨d, .alloc t, ty, pos, af, none⟩ :: rest)) w :=
  St.val rfl hN (fun T _ hs => by
    simp only [execOp, Instr.alloc, Sem.run_bind, hz, Result.andThen_ok, newVar, newRow, newObj]
    rfl) (k (w.alloc (.cells z.cells.toList.toArray t)) w.heap.size rfl (by simp) (Ext.alloc _ _) (Blk.new w t z.cells.toList))
theorem St.box {t : TypeId} {x : Operand} {v : Value} (hx : ev l x = some v) (hN : dstOk N d = true)
    (k : ∀ w' b, b = w.heap.size → w'.heap.size = b + 1 → Ext w w' → Blk w' b t v.cells.toList → St N D (putE d (.pointer (some ⟨b, 0, none⟩)) l) (wpl ro P ops Q rest) w') :
    St N D l (wpl ro P ops Q (⟨d, .box t x, ty, pos, af, none⟩ :: rest)) w :=
  St.val rfl hN (fun T _ hs => by
    simp only [execOp, ev_eval hs hx, Instr.box, Sem.run_bind, newVar, newRow, newObj]
    rfl) (k (w.alloc (.cells v.cells.toList.toArray t)) w.heap.size rfl (by simp) (Ext.alloc _ _) (Blk.new w t v.cells.toList))
theorem fill_fold (off : Nat) : ∀ (vs : List Value) (n : Nat) (cells : Array Value), (vs.zipIdx n).foldl (fun cs (x : Value × Nat) => cs.setIfInBounds (off + x.2) x.1) cells = (splice cells.toList (off + n) vs).toArray
  | [], n, cells => by simp [splice]
  | v :: r, n, cells => by
    rw [List.zipIdx_cons, List.foldl_cons, fill_fold off r (n + 1), splice, Array.toList_setIfInBounds, Nat.add_assoc]
theorem fill_all {m : Nat} : ∀ (vs : List Value) (k : Nat) (cells : Array Value), (∀ v ∈ vs, v.cells.size = m) → (k + vs.length) * m = cells.size →
    Instr.fill (fun i => some (i * m, m)) cells ((List.range' k vs.length).zip vs) = some (cells.toList.take (k * m) ++ vs.flatMap fun v => v.cells.toList).toArray
  | [], k, cells, _, hl => by
    simp only [List.length_nil, Nat.add_zero] at hl
    have h2 : cells.toList.take cells.size = cells.toList := List.take_of_length_le (by simp)
    simp [Instr.fill, hl, h2]
  | v :: r, k, cells, hv, hl => by
    have h0 := hv v List.mem_cons_self
    have hk : k * m + m ≤ cells.size := by
      rw [← hl, ← Nat.succ_mul, List.length_cons]
      exact Nat.mul_le_mul_right _ (by omega)
    simp only [List.length_cons, List.range'_succ, List.zip_cons_cons, Instr.fill]
    rw [if_neg (by rw [h0]; simp; omega)]
    have hf := fill_fold (k * m) v.cells.toList 0 cells
    rw [Nat.add_zero] at hf
    have hf' : (v.cells.zipIdx.foldl (fun cs (c, j) => cs.setIfInBounds (k * m + j) c) cells) = (splice cells.toList (k * m) v.cells.toList).toArray := by
      rw [← hf, ← Array.toList_zipIdx, Array.foldl_toList]
    simp only [hf']
    have hsl : k * m + v.cells.toList.length ≤ cells.toList.length := by simp [h0]; omega
    rw [fill_all r (k + 1) _ (fun u hu => hv u (List.mem_cons_of_mem _ hu)) (by
      have e1 : (splice cells.toList (k * m) v.cells.toList).toArray.size = cells.size := by simp [splice_length]
      have e2 : k + 1 + r.length = k + (v :: r).length := by rw [List.length_cons]; omega
      rw [e1, e2, hl])]
    congr 2
    rw [splice_take hsl (by simp [h0, Nat.succ_mul]), List.flatMap_cons]
    simp
theorem run_buildSl {t e : TypeId} {n m : Nat} {parts : Array (Nat × Operand)} {z : Value} {vs : List Value} (ht : P.underlying t = some (.slice e)) (hz : ∀ w, (sizeOf e).run P w = .ok m w)
    (hz0 : ∀ w, (zeroValue e).run P w = .ok z w) (h24 : Nat.ble (n * m) 16777216 = true) (hm : Nat.beq (n * m) 0 = false)
    (hi : parts.toList.map (·.1) = List.range' 0 n) (hv : evs l (parts.toList.map (·.2)) = some vs) (hs : ∀ v ∈ vs, v.cells.size = m) {T : Array Value} (hsl : Slots T l) :
    (execOp (Act.eval ⟨T, D⟩) ⟨d, .buildSlice t n parts, ty, pos, af, gd⟩).run P w = .ok (.value (.slice (some ⟨w.heap.size, 0, none⟩) n n)) (w.alloc (.cells (vs.flatMap fun v => v.cells.toList).toArray e)) := by
  have hlen : vs.length = n := by
    have h1 : ∀ (xs : List Operand) (us : List Value), evs l xs = some us → us.length = xs.length := by
      intro xs
      induction xs with
      | nil => intro us h; simp only [evs, Option.some.injEq] at h; subst h; rfl
      | cons x r ih =>
        intro us h
        simp only [evs] at h
        split at h
        · cases h
        · split at h
          · cases h
          · rename_i u _ _ us' hus
            injection h with h; subst h
            simp [ih _ hus]
    have h2 := h1 _ _ hv
    have h3 := congrArg List.length hi
    simp at h2 h3
    omega
  have hf := fill_all vs 0 ((Array.range (n * m)).map (z.cells[· % z.cells.size]!)) hs (by simp [hlen])
  rw [hlen] at hf
  simp only [Nat.zero_mul, List.take_zero, List.nil_append] at hf
  have h24' : ¬ n * m > 2 ^ 24 := by have := Nat.le_of_ble_eq_true h24; omega
  have hm' : n * m ≠ 0 := by intro e; rw [e] at hm; simp at hm
  have hp : (parts.map fun (i, x) => (i, Act.eval ⟨T, D⟩ x)).toList = (List.range' 0 n).zip vs := by
    rw [← hi, ← evs_eval (D := D) hsl hv, List.map_map, List.zip_map', Array.toList_map]
    exact List.map_congr_left fun _ _ => rfl
  simp only [execOp, Instr.buildSlice, Sem.run_bind, run_underlying ht, hz, hz0, Result.andThen_ok, if_neg h24', if_neg hm', Sem.run_pure, hp, hf, newRow, newObj]
  rfl
theorem St.buildSl {t e : TypeId} {n m : Nat} {parts : Array (Nat × Operand)} {z : Value} {vs : List Value} (ht : P.underlying t = some (.slice e)) (hz : ∀ w, (sizeOf e).run P w = .ok m w)
    (hz0 : ∀ w, (zeroValue e).run P w = .ok z w) (h24 : Nat.ble (n * m) 16777216 = true) (hm : Nat.beq (n * m) 0 = false)
    (hi : parts.toList.map (·.1) = List.range' 0 n) (hv : evs l (parts.toList.map (·.2)) = some vs) (hs : ∀ v ∈ vs, v.cells.size = m) (hN : dstOk N d = true)
    (k : ∀ w' b, b = w.heap.size → w'.heap.size = b + 1 → Ext w w' → Blk w' b e (vs.flatMap fun v => v.cells.toList) → St N D (putE d (.slice (some ⟨b, 0, none⟩) n n) l) (wpl ro P ops Q rest) w') :
    St N D l (wpl ro P ops Q (⟨d, .buildSlice t n parts, ty, pos, af, none⟩ :: rest)) w := by
  exact St.val rfl hN (fun T _ hsl => run_buildSl ht hz hz0 h24 hm hi hv hs hsl) (k (w.alloc (.cells (vs.flatMap fun v => v.cells.toList).toArray e)) w.heap.size rfl (by simp) (Ext.alloc _ _) (Blk.new w e _))

/-- A struct out of parts, the rest zero. -/
def fillL (place : List (Nat × Nat)) (cells : List Value) : List (Nat × Value) → Option (List Value)
  | [] => some cells
  | (i, v) :: r => match place[i]? with
    | none => none
    | some (off, size) => if v.cells.toList.length ≠ size || off + size > cells.length then none else fillL place (splice cells off v.cells.toList) r
theorem fill_eq (place : List (Nat × Nat)) : ∀ (ps : List (Nat × Value)) (cells : Array Value), Instr.fill (place.toArray[·]?) cells ps = (fillL place cells.toList ps).map List.toArray
  | [], cells => by simp [Instr.fill, fillL]
  | (i, v) :: r, cells => by
    simp only [Instr.fill, fillL, List.getElem?_toArray]
    cases place[i]? with
    | none => rfl
    | some x =>
      obtain ⟨off, size⟩ := x
      have hf := fill_fold off v.cells.toList 0 cells
      rw [Nat.add_zero] at hf
      have hf' : (v.cells.zipIdx.foldl (fun cs (c, j) => cs.setIfInBounds (off + j) c) cells) = (splice cells.toList off v.cells.toList).toArray := by
        rw [← hf, ← Array.toList_zipIdx, Array.foldl_toList]
      simp only [hf', Array.length_toList]
      by_cases h1 : v.cells.size = size
      · subst h1
        by_cases h2 : off + v.cells.size > cells.size
        · simp [h2]
        · have ih := fill_eq place r (splice cells.toList off v.cells.toList).toArray
          simpa [h2] using ih
      · simp [h1]
def Places (P : Program) (fs : Array Field) (pl : List (Nat × Nat)) : Prop := ∀ w, Sem.run P (fs.mapM fun f => do pure (f.offset, ← sizeOf f.type)) w = .ok pl.toArray w
theorem R.build {t : TypeId} {parts : Array (Nat × Operand)} {fs : Array Field} {pl : List (Nat × Nat)} {z : Value} {vs cs : List Value} (ht : P.underlying t = some (.struct fs)) (hpl : Places P fs pl) (hz : ∀ w, (zeroValue t).run P w = .ok z w)
    (hv : evs l (parts.toList.map (·.2)) = some vs) (hf : fillL pl z.cells.toList ((parts.toList.map (·.1)).zip vs) = some cs) (_h : True = True) : Runs P N D l w ⟨d, .build t parts, ty, pos, af, gd⟩ (.agg cs.toArray) w := fun T _ hsl => by
  have hp : (parts.map fun (i, x) => (i, Act.eval ⟨T, D⟩ x)).toList = (parts.toList.map (·.1)).zip vs := by
    rw [← evs_eval (D := D) hsl hv, List.map_map, List.zip_map', Array.toList_map]
    exact List.map_congr_left fun _ _ => rfl
  have hfe := fill_eq pl ((parts.toList.map (·.1)).zip vs) z.cells
  rw [hf] at hfe
  simp only [execOp, Instr.build, Sem.run_bind, hz, run_underlying ht, Result.andThen_ok]
  have hpl' := hpl w
  rw [hpl']
  simp only [Result.andThen_ok, hp, hfe, Option.map_some]
  rfl

/-! ### 5. Addresses -/
theorem R.nilOk {x : Operand} {a : Addr} (hx : ev l x = some (.pointer (some a))) : Runs P N D l w ⟨d, .nilCheck x, ty, pos, af, gd⟩ (.pointer (some a)) w :=
  fun T _ hs => (by simp only [execOp, ev_eval hs hx]; rfl)
theorem R.fieldA {s : TypeId} {x : Operand} {i b o n off : Nat} {fs : Array Field} {f : Field} (ht : P.underlying s = some (.struct fs)) (hf : fs[i]? = some f) (hz : ∀ w, (sizeOf f.type).run P w = .ok n w) (hn : Nat.beq n 0 = false)
    (ho : f.offset = off) (hx : ev l x = some (.pointer (some ⟨b, o, none⟩))) : Runs P N D l w ⟨d, .fieldAddr s x i, ty, pos, af, gd⟩ (.pointer (some ⟨b, o + off, none⟩)) w :=
  fun T _ hs => (by
    have hn' : n ≠ 0 := by intro e; subst e; simp at hn
    subst ho
    simp only [execOp, ev_eval hs hx, Instr.fieldAt, Sem.run_bind, run_underlying ht, Result.andThen_ok, hf, Instr.sureAddr, Sem.run_pure, fieldPlace, hz, if_neg hn', add_lit])
theorem R.indexA {t e : TypeId} {x ix : Operand} {kd : IntKind} {i : Int} {b o n m : Nat} (j : Nat) (ht : P.underlying t = some (.array m e)) (hz : ∀ w, (sizeOf e).run P w = .ok n w)
    (hx : ev l x = some (.pointer (some ⟨b, o, none⟩))) (hi : ev l ix = some (.int kd i)) (hj : i = (j : Int)) (hm : j < m) : Runs P N D l w ⟨d, .indexAddr t x ix, ty, pos, af, gd⟩ (.pointer (some ⟨b, o + j * n, none⟩)) w :=
  fun T _ hs => (by
    subst hj
    have h : (0 : Int) ≤ (j : Int) ∧ (j : Int) < (m : Int) := by omega
    simp only [execOp, ev_eval hs hx, ev_eval hs hi, Instr.indexAt, asIntOf, Sem.run_bind, run_underlying ht, Result.andThen_ok, Instr.sureAddr, Sem.run_pure]
    simp only [if_pos h, Sem.run_bind, hz, Result.andThen_ok, Sem.run_pure, Int.toNat_natCast, add_lit])
theorem R.indexS {t e : TypeId} {x ix : Operand} {kd : IntKind} {i : Int} {b o n m c : Nat} (j : Nat) (ht : P.underlying t = some (.slice e)) (hz : ∀ w, (sizeOf e).run P w = .ok n w)
    (hx : ev l x = some (.slice (some ⟨b, o, none⟩) m c)) (hi : ev l ix = some (.int kd i)) (hj : i = (j : Int)) (hm : j < m) : Runs P N D l w ⟨d, .indexAddr t x ix, ty, pos, af, gd⟩ (.pointer (some ⟨b, o + j * n, none⟩)) w :=
  fun T _ hs => (by
    subst hj
    have h : (0 : Int) ≤ (j : Int) ∧ (j : Int) < (m : Int) := by omega
    simp only [execOp, ev_eval hs hx, ev_eval hs hi, Instr.indexAt, asIntOf, Sem.run_bind, run_underlying ht, Result.andThen_ok, Sem.run_pure]
    simp only [if_pos h, Sem.run_bind, hz, Result.andThen_ok, Sem.run_pure, Int.toNat_natCast, add_lit])

/-! ### 6. Calls -/
/-- The function is entered when it is called. -/
def Ent (P : Program) (f : FuncId) : Prop := ∀ args w, (callFunc f args).run P w = .ok (.enter f args) w
theorem Ent.of {P : Program} {f : FuncId} {fn : Func} {c : Code} (hf : P.funcs[f]? = some fn) (hname : (fn.name == "runtime.NumGoroutine") = false) (hb : fn.body = some c) : Ent P f := by
  intro args w
  have h1 : fn.name ≠ "runtime.NumGoroutine" := by simpa using hname
  simp [callFunc, hf, h1, hb, mark]
/-- It returns, and what. -/
def Ret (P : Program) (f : FuncId) (args : List Value) (w : World) (R : Value → World → Prop) : Prop := Calls P f args.toArray w fun e w' => ∃ v, e = .returned v ∧ R v w'
theorem Ret.mono {f : FuncId} {args : List Value} {R R' : Value → World → Prop} (h : Ret P f args w R) (hr : ∀ v w', R v w' → R' v w') : Ret P f args w R' :=
  Calls.mono h fun _ _ ⟨v, he, hR⟩ => ⟨v, he, hr v _ hR⟩

theorem run_resolve_value {ρ : Operand → Value} {fo : Operand} {args : Array Operand} {at_ : Array TypeId} {f : FuncId} {fst caps : Array Value} (hf : ρ fo = .func (.func f) fst caps) (ty : TypeId) (w : World) :
    (resolve ρ { callee := .value fo, args, argTypes := at_ } ty).run P w = .ok { target := .fn (.func f) caps, args := fst ++ args.map ρ } w := by
  simp only [resolve, hf, Deferred.ofValue]; rfl

theorem St.call {fo : Operand} {args : Array Operand} {at_ : Array TypeId} {f : FuncId} {fst caps : Array Value} {vs : List Value} {R : Value → World → Prop} (hf : ev l fo = some (.func (.func f) fst caps)) (ha : evs l args.toList = some vs)
    (he : Ent P f) (hR : Ret P f (fst.toList ++ vs ++ caps.toList) w R) (hN : dstOk N d = true) (k : ∀ v w', R v w' → St N D (putE d v l) (wpl ro P ops Q rest) w') :
    St N D l (wpl ro P ops Q (⟨d, .call { callee := .value fo, args := args, argTypes := at_ }, ty, pos, af, none⟩ :: rest)) w := by
  intro T hT hs
  refine wpl_plain rfl fun K hK => ?_
  have hargs : args.map (Act.eval ⟨T, D⟩) = vs.toArray := by rw [← evs_eval hs ha, ← Array.toList_map, Array.toArray_toList]
  have heq : fst ++ vs.toArray ++ caps = (fst.toList ++ vs ++ caps.toList).toArray := by apply Array.ext'; simp
  refine opr_enter (f := f) (args := (fst.toList ++ vs ++ caps.toList).toArray) (w' := w) (by simp only [execOp, Sem.run_bind, run_resolve_value (ev_eval hs hf), Result.andThen_ok, hargs, invoke, he _ _, heq]) ?_
  refine Calls.mono hR ?_
  rintro e w' ⟨v, rfl, hv⟩
  refine ⟨v, rfl, ?_⟩
  obtain ⟨T', h1, h2, h3⟩ := hs.putE (D := D) (d := d) (by rw [hT]; exact hN) v
  simp only [h1]
  exact hK _ _ (k v w' hv T' (h2.trans hT) h3)

/-- A function's begin. -/
def argEnv : Nat → List Value → Env
  | _, [] => []
  | n, v :: r => (n, v) :: argEnv (n + 1) r
theorem argEnv_slots (args : List Value) (r : Array Value) : Slots (args.toArray ++ r) (argEnv 0 args) := by
  have key : ∀ (pre : List Value) (args : List Value), Slots ((pre ++ args).toArray ++ r) (argEnv pre.length args) := by
    intro pre args
    induction args generalizing pre with
    | nil => intro k v h; simp [argEnv, look] at h
    | cons a as ih =>
      intro k v h
      simp only [argEnv] at h
      rw [look_cons] at h
      split at h
      · rename_i e; subst e
        injection h with h; subst h
        simp [Array.getD_eq_getD_getElem?, Array.getElem?_append]
      · have := ih (pre ++ [a]) k v (by simpa using h)
        simpa using this
  simpa using key [] args
theorem St.enter {f : FuncId} {fn : Func} {c : Code} {args : List Value} {R : Ending → World → Prop} (hf : P.funcs[f]? = some fn) (hb : fn.body = some c) (hn : fn.ntmps = N) (ha : Nat.ble args.length N = true)
    (h : St N [] (argEnv 0 args) (wpr none P c (bodyPost P fn R)) w) : Calls P f args.toArray w R := by
  refine calls_of_wp hf hb (wpr_none.1 ?_)
  refine h _ ?_ (argEnv_slots args _)
  have : args.length ≤ N := Nat.le_of_ble_eq_true ha
  simp [hn]; omega
theorem St.ret1 {fn : Func} {t : Tmp} {v : Value} {R : Ending → World → Prop} (hr : fn.results = #[.tmp t]) (hv : look l t = some v) (h : R (.returned v) w) : St N [] l (bodyPost P fn R .ret) w :=
  fun T _ hs => by
    refine bodyPost_ret (results_tmp hr T P w) rfl ?_
    rw [hs _ _ hv]; exact h
theorem St.ret2 {fn : Func} {t u : Tmp} {a b : Value} {R : Ending → World → Prop} (hr : fn.results = #[.tmp t, .tmp u]) (ha : look l t = some a) (hb : look l u = some b) (h : R (.returned (.tuple #[a, b])) w) : St N [] l (bodyPost P fn R .ret) w :=
  fun T _ hs => by
    refine bodyPost_ret (results_tmp2 hr T P w) rfl ?_
    rw [hs _ _ ha, hs _ _ hb]; exact h
theorem results_tmp3 {fn : Func} {t u x : Tmp} (h : fn.results = #[.tmp t, .tmp u, .tmp x]) (tmps : Array Value) (P : Program) (w : World) :
    (results fn tmps).run P w = .ok (.tuple #[tmps.getD t undef, tmps.getD u undef, tmps.getD x undef]) w := by simp [results, h]
theorem St.ret3 {fn : Func} {t u x : Tmp} {a b c : Value} {R : Ending → World → Prop} (hr : fn.results = #[.tmp t, .tmp u, .tmp x]) (ha : look l t = some a) (hb : look l u = some b) (hc : look l x = some c) (h : R (.returned (.tuple #[a, b, c])) w) :
    St N [] l (bodyPost P fn R .ret) w :=
  fun T _ hs => by
    refine bodyPost_ret (results_tmp3 hr T P w) rfl ?_
    rw [hs _ _ ha, hs _ _ hb, hs _ _ hc]; exact h
end
end Go.Proofs.YtjgcmpondbocfaaGreatDoor
