/- Bytes: an empty slice built, a string appended, bytes as a string. No condition. -/
import Derived.Test.YtjgcmpondbocfaaGreatDoorMore
import Derived.Lib.AppendStr
import Derived.Lib.SlBytesRow
import Derived.Laws.Cover3
import Derived.Laws.StructEq
namespace Go.Proofs.YtjgcmpondbocfaaGreatDoor
open Go.RowKit Go.Lib

section
variable {ro : Option Nat} {P : Program} {N : Nat} {D : List Deferred} {l : Env} {w : World} {Q : Exit → Act → World → Prop} {ops : Array Oper} {rest : List Oper}
variable {d : Option Tmp} {ty : TypeId} {pos : String} {af : Array Edge} {gd : Option (Nat × Bool)}

theorem run_buildSl0 {t e : TypeId} {m : Nat} (ht : P.underlying t = some (.slice e)) (hz : ∀ w, (sizeOf e).run P w = .ok m w) {T : Array Value} :
    (execOp (Act.eval ⟨T, D⟩) ⟨d, .buildSlice t 0 #[], ty, pos, af, gd⟩).run P w = .ok (.value (.slice (some ⟨w.heap.size, 0, none⟩) 0 0)) (w.alloc (.cells (List.toArray []) e)) := by
  simp [execOp, Instr.buildSlice, run_underlying ht, hz, Sem.run_bind, Sem.run_pure, Instr.fill, newRow, newObj]
  have h0 : ∀ f : Nat → Value, Array.map f (Array.range 0) = #[] := fun f => by apply Array.ext'; simp [Array.toList_range]
  rw [h0]; rfl
theorem St.buildSl0 {t e : TypeId} {m : Nat} (ht : P.underlying t = some (.slice e)) (hz : ∀ w, (sizeOf e).run P w = .ok m w) (hN : dstOk N d = true)
    (k : ∀ w' b, b = w.heap.size → w'.heap.size = b + 1 → Ext w w' → Blk w' b e [] → St N D (putE d (.slice (some ⟨b, 0, none⟩) 0 0) l) (wpl ro P ops Q rest) w') :
    St N D l (wpl ro P ops Q (⟨d, .buildSlice t 0 #[], ty, pos, af, none⟩ :: rest)) w :=
  St.val rfl hN (fun T _ _ => run_buildSl0 ht hz) (k _ w.heap.size rfl (by simp) (Ext.alloc _ _) (Blk.new w e []))
theorem Own.empty {α : Type} {enc : α → List Value} {size base : Nat} {e : TypeId} {w : World} {b : Nat} (h : Blk w b e []) (hb : base ≤ b) : Own enc size base e w (.slice (some ⟨b, 0, none⟩) 0 0) ([] : List α) :=
  ⟨by simp, .inr ⟨b, 0, #[], rfl, hb, h, Nat.le_refl _, by simp [maxLen], by simp, by simp⟩⟩

theorem strCells_flat (s : ByteArray) : strCells s = s.data.toList.flatMap encByte := by
  unfold strCells
  rw [List.map_eq_flatMap]
  rfl
theorem appendStr_at {base : Nat} {t u e : TypeId} (ht : P.underlying t = some (.slice e)) (hu : P.underlying u = some .string) {i : TypeInfo} (hi : P.info? e = some i) (hz : i.zero = some (.int .u8 0)) (hs1 : i.size = 1) (hby : i.bytes = 1)
    {v : Value} {n : Nat} {xs : List Value} {s : ByteArray} (hown : w.ownsRow base e 1 v n xs) (hm : n + s.size ≤ 140737488355328) {v' : Value} {w' : World} (h : (Builtin.append_ #[t, u] ty #[v, .string s]).run P w = .ok v' w') :
    v'.ownBlock = v.ownBlock ∨ v'.ownBlock = some w.heap.size := by
  have hxl : xs.length = n := by simpa using hown.1
  rcases hown.2 with ⟨rfl, rfl⟩ | ⟨g, cap, cur, rfl, hbg, hg, hnc, hcm, hcs, htake⟩
  · by_cases h0 : s.size = 0
    · have hf := run_firstCells_string (P := P) w 1 s
      rw [h0] at hf
      simp [Builtin.append_, run_underlying ht, run_underlying hu, sizeOf, typeInfo, hi, hs1, Builtin.lenOf, h0, hf] at h
      rw [← h.1]; exact .inl rfl
    · rw [run_append_nil_string (P := P) w t u ty e i (.int .u8 0) ht hu hi hz s (by omega) (by omega) (by rw [hby]; omega)] at h
      injection h with h _; rw [← h]; exact .inr rfl
  · by_cases hroom : n + s.size ≤ cap
    · have hcs' : cur.size = cap := by simpa using hcs
      rw [run_append_room_string (P := P) w t u ty e i ht hu hi hs1 g n cap cur hg s hroom (by omega)] at h
      injection h with h _; rw [← h]; exact .inl rfl
    · have holds : ∀ j u, xs[j]? = some u → w.cell? ((⟨g, 0, none⟩ : Addr).add j) = some u := hown.cells (g := g) rfl
      rw [run_append_grow_string (P := P) w t u ty e i (.int .u8 0) ht hu hi hz ⟨g, 0, none⟩ n cap xs (by rw [hs1]; simpa using hxl) holds s (by omega) (by omega) (by rw [hby]; exact growslice_fits (by omega) (by omega))] at h
      injection h with h _; rw [← h]; exact .inr rfl
theorem run_appendStr {base : Nat} {t u e : TypeId} (ht : P.underlying t = some (.slice e)) (hu : P.underlying u = some .string) (hinfo : (P.info? e).map (fun i => (i.zero, i.size, i.bytes)) = some (some (.int .u8 0), 1, 1))
    {v : Value} {xs : List UInt8} {s : ByteArray} (hown : Own encByte 1 base e w v xs) (hm : xs.length + s.size ≤ 140737488355328) (hbase : base ≤ w.heap.size) :
    ∃ v' w', (Builtin.append_ #[t, u] ty #[v, .string s]).run P w = .ok v' w' ∧ Own encByte 1 base e w' v' (xs ++ s.data.toList) ∧ Chg (fun k => v.ownBlock = some k) w w' ∧ (v'.ownBlock = v.ownBlock ∨ v'.ownBlock = some w.heap.size) := by
  obtain ⟨i0, hi, hzz⟩ := Option.map_eq_some_iff.1 hinfo
  simp only [Prod.mk.injEq] at hzz
  obtain ⟨hz0, hz1, hz2⟩ := hzz
  obtain ⟨v', w', h1, h2, h3, _⟩ := run_append_own_string (P := P) w base t u ty e i0 ht hu hi hz0 hz1 hz2 v xs.length (xs.flatMap encByte) hown s (by simp only [maxLen]; omega) hm hbase
  refine ⟨v', w', h1, ?_, (Chg.of_grown h3 (sem_drawn _ _ _ _ h1)).mono fun k _ h => h.symm, appendStr_at ht hu hi hz0 hz1 hz2 hown hm h1⟩
  unfold Own
  rw [List.flatMap_append, List.length_append, ← strCells_flat]
  have : s.data.toList.length = s.size := by rw [Array.length_toList]; rfl
  rw [this]; exact h2
theorem Eff.appendStr {base : Nat} {s x : Operand} {t u e : TypeId} (ht : P.underlying t = some (.slice e)) (hu : P.underlying u = some .string) (hinfo : (P.info? e).map (fun i => (i.zero, i.size, i.bytes)) = some (some (.int .u8 0), 1, 1))
    {v : Value} {xs : List UInt8} {b : ByteArray} (hs : ev l s = some v) (hx : ev l x = some (.string b)) (hown : Own encByte 1 base e w v xs) (hm : xs.length + b.size ≤ 140737488355328) (hbase : base ≤ w.heap.size) :
    Eff P N D l w ⟨d, .call { callee := .builtin .append, args := #[s, x], argTypes := #[t, u] }, ty, pos, af, gd⟩ fun v' w' => Own encByte 1 base e w' v' (xs ++ b.data.toList) ∧ Chg (fun k => v.ownBlock = some k) w w' ∧ (v'.ownBlock = v.ownBlock ∨ v'.ownBlock = some w.heap.size) := fun T _ hsl => by
  obtain ⟨v', w', g1, g2, g3, g4⟩ := run_appendStr (P := P) (ty := ty) ht hu hinfo hown hm hbase
  refine .inl ⟨v', w', ⟨g2, g3, g4⟩, ?_⟩
  simp only [execOp, resolve, invoke, builtin, Sem.run_bind, Sem.run_pure, Result.andThen_ok, List.map_toArray, List.map_cons, List.map_nil, ev_eval hsl hs, ev_eval hsl hx, g1]

theorem strOfNums_bytes (xs : List UInt8) : strOfNums (xs.map fun x => (x.toNat : Int)) = ⟨xs.toArray⟩ := by
  apply ByteArray.ext
  apply Array.toList_inj.1
  rw [strOfNums_data, List.map_map]
  show xs.map _ = xs
  conv => rhs; rw [← List.map_id xs]
  apply List.map_congr_left
  intro x _
  simp
theorem R.strOf {src dst e : TypeId} {x : Operand} {v : Value} {xs : List UInt8} (hs : P.underlying src = some (.slice e)) (he : P.underlying e = some (.int .u8)) (hd : P.underlying dst = some .string) (hx : ev l x = some v) (hv : RBytes w v xs) :
    Runs P N D l w ⟨d, .convert src dst x, ty, pos, af, gd⟩ (.string ⟨xs.toArray⟩) w := fun T _ hsl => by
  simp only [execOp, ev_eval hsl hx, Sem.run_bind]
  have key : (convert src dst v).run P w = .ok (.string ⟨xs.toArray⟩) w := by
    rcases Nat.eq_zero_or_pos xs.length with h0 | h0
    · obtain rfl := List.eq_nil_of_length_eq_zero h0
      obtain ⟨A, c, rfl, _, _⟩ := hv.form
      cases A with
      | none => rw [run_convert_bytes_nil w src e hs he _ _ dst hd]; rfl
      | some a =>
        obtain ⟨b, o, q⟩ := a
        rw [run_convert_bytes_string w src dst e _ _ c hs he hd, run_bytesToString w _ _ c [] (by simp [loadCells, Sem.run_pure]; rfl)]
        rfl
    · obtain ⟨b, o, c, rfl, -, -, hc⟩ := hv.at h0
      rw [run_convert_bytes_arg w src e hs he b o xs.length c (xs.map fun x => (x.toNat : Int)) (by simp) (fun i hi => by
        obtain ⟨x, hx⟩ := get_of_lt (xs := xs) hi
        obtain ⟨cs, _, h1, rfl⟩ := hc i x hx
        have := h1.at 0 rfl
        rw [Nat.mul_one, Nat.add_zero] at this
        rw [this]
        simp [List.getD, List.getElem?_map, hx]) dst hd, strOfNums_bytes]
  rw [key]; rfl

/-! ### a slice that is nil; structs that are alike -/
theorem run_eqGuard_sl (P : Program) (w : World) (op : BinOp) (t : TypeId) (x y : Operand) (A : Option Addr) (n c : Nat) : (eqGuard op t x y (.slice A n c) (.slice none 0 0)).run P w = .ok () w := by
  cases op <;> simp [eqGuard] <;> rfl
theorem R.eqNilSl {t t' e : TypeId} {x : Operand} {A : Option Addr} {n c : Nat} (ht : P.underlying t = some (.slice e)) (hx : ev l x = some (.slice A n c)) : Runs P N D l w ⟨d, .binOp .eql t x (.const (.slice none 0 0)) t', ty, pos, af, gd⟩ (.bool A.isNone) w :=
  R.bin hx rfl (run_eqGuard_sl ..) (by simp only [binOp]; simp [run_equal_slice_nil w t e A n c ht])
theorem R.neNilSl {t t' e : TypeId} {x : Operand} {A : Option Addr} {n c : Nat} (ht : P.underlying t = some (.slice e)) (hx : ev l x = some (.slice A n c)) : Runs P N D l w ⟨d, .binOp .neq t x (.const (.slice none 0 0)) t', ty, pos, af, gd⟩ (.bool (!A.isNone)) w :=
  R.bin hx rfl (run_eqGuard_sl ..) (run_neq_slice_nil w t e A n c ht)
theorem R.eqAgg {t t' : TypeId} {x y : Operand} {xs ys : Array Value} {b : Bool} (hg : P.eqGuardType P.depth t = false) (hq : ∀ w, (Op.equalIn 10000 t (.agg xs) (.agg ys)).run P w = .ok b w) (hx : ev l x = some (.agg xs)) (hy : ev l y = some (.agg ys)) :
    Runs P N D l w ⟨d, .binOp .eql t x y t', ty, pos, af, gd⟩ (.bool b) w :=
  R.bin hx hy (run_eqGuard_agg w _ _ _ _ _ _ hg) (by rw [run_eql_struct, hq]; rfl)
theorem R.neAgg {t t' : TypeId} {x y : Operand} {xs ys : Array Value} {b : Bool} (hg : P.eqGuardType P.depth t = false) (hq : ∀ w, (Op.equalIn 10000 t (.agg xs) (.agg ys)).run P w = .ok b w) (hx : ev l x = some (.agg xs)) (hy : ev l y = some (.agg ys)) :
    Runs P N D l w ⟨d, .binOp .neq t x y t', ty, pos, af, gd⟩ (.bool (!b)) w :=
  R.bin hx hy (run_eqGuard_agg w _ _ _ _ _ _ hg) (by rw [run_neq_struct, hq]; rfl)

/-! ### a result that stands in a cell -/
theorem run_loadVarA {ct : TypeId} {b o n : Nat} {cs : List Value} (ha : ∀ w, (isAgg ct).run P w = .ok true w) (hz : ∀ w, (sizeOf ct).run P w = .ok n w) (hc : CellsAt w b o cs) (hn : cs.length = n) :
    (loadVar ct ⟨b, o, none⟩).run P w = .ok (.agg cs.toArray) w := by
  subst hn
  have h := run_loadCellsFrom (P := P) (b := b) (o := o) (cs := cs) 0 #[] hc
  simp only [Sem.run_bind, Sem.run_pure, Result.andThen_ok, loadVar, ha, if_true, hz, loadCells, h]
  simp
theorem St.retA {fn : Func} {t : Tmp} {ct : TypeId} {b o n : Nat} {cs : List Value} {R : Ending → World → Prop} (hr : fn.results = #[.cell t ct]) (ha : ∀ w, (isAgg ct).run P w = .ok true w) (hz : ∀ w, (sizeOf ct).run P w = .ok n w)
    (hv : look l t = some (.pointer (some ⟨b, o, none⟩))) (hc : CellsAt w b o cs) (hn : cs.length = n) (h : R (.returned (.agg cs.toArray)) w) : St N [] l (bodyPost P fn R .ret) w :=
  fun T _ hs => by
    refine bodyPost_ret (v := .agg cs.toArray) ?_ rfl h
    have e := hs _ _ hv
    rw [Array.getD_eq_getD_getElem?] at e
    simp [results, hr, e, asAddr, run_loadVarA ha hz hc hn]
theorem St.retAE {fn : Func} {t u : Tmp} {ct : TypeId} {b o n : Nat} {cs : List Value} {x : Value} {R : Ending → World → Prop} (hr : fn.results = #[.cell t ct, .tmp u]) (ha : ∀ w, (isAgg ct).run P w = .ok true w) (hz : ∀ w, (sizeOf ct).run P w = .ok n w)
    (hv : look l t = some (.pointer (some ⟨b, o, none⟩))) (hx : look l u = some x) (hc : CellsAt w b o cs) (hn : cs.length = n) (h : R (.returned (.tuple #[.agg cs.toArray, x])) w) : St N [] l (bodyPost P fn R .ret) w :=
  fun T _ hs => by
    refine bodyPost_ret (v := .tuple #[.agg cs.toArray, x]) ?_ rfl h
    have e := hs _ _ hv
    have e2 := hs _ _ hx
    rw [Array.getD_eq_getD_getElem?] at e e2
    simp [results, hr, e, e2, asAddr, run_loadVarA ha hz hc hn]
end

/-! ### numbers as bytes; where an appended slice may stand -/
def byteW (a : Int) : UInt8 := UInt8.ofNat (a % 256).toNat
theorem wrap_u8 (a : Int) : IntKind.u8.wrap a = ((byteW a).toNat : Int) := by
  have h : ((byteW a).toNat : Int) = a % 256 := by
    unfold byteW
    rw [UInt8.toNat_ofNat']
    omega
  rw [h]
  simp [IntKind.wrap, IntKind.bits, IntKind.signed]
def Near (B : Nat) (v v' : Value) : Prop := ∀ k, v'.ownBlock = some k → v.ownBlock = some k ∨ B ≤ k
theorem Near.refl (B : Nat) (v : Value) : Near B v v := fun _ h => .inl h
theorem Near.step {B n : Nat} {v v' v'' : Value} (h : Near B v v') (hat : v''.ownBlock = v'.ownBlock ∨ v''.ownBlock = some n) (hn : B ≤ n) : Near B v v'' := fun k hk => by
  rcases hat with e | e
  · exact h k (e ▸ hk)
  · rw [e] at hk; injection hk with hk; subst hk; exact .inr hn
theorem Near.lower {B B' : Nat} {v v' : Value} (h : Near B v v') (hb : B' ≤ B) : Near B' v v' := fun k hk => (h k hk).imp id (Nat.le_trans hb)
theorem Near.trans {B B' : Nat} {v v' v'' : Value} (h : Near B v v') (k : Near B' v' v'') (hb : B ≤ B') : Near B v v'' := fun j hj => (k j hj).elim (h j) (fun h => .inr (Nat.le_trans hb h))
end Go.Proofs.YtjgcmpondbocfaaGreatDoor
