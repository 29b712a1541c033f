/- Slices: bytes of a string, cuts, clear, append onto a row of the call's own. No condition. -/
import Derived.Test.YtjgcmpondbocfaaGreatDoorData
import Derived.Test.YtjgcmpondbocfaaGreatDoorDraw
import Derived.Lib.ConvBytes
namespace Go.Proofs.YtjgcmpondbocfaaGreatDoor
open Go.RowKit

def encByte (x : UInt8) : List Value := [.int .u8 (x.toNat : Int)]
abbrev RBytes : World → Value → List UInt8 → Prop := RSl (REnc encByte) 1

theorem encInt_len (x : Int) : (encInt x).length = 1 := rfl
theorem encStr_len (x : ByteArray) : (encStr x).length = 1 := rfl
/-- The cells of a list, one element behind the other. -/
theorem flat_get {α : Type} {enc : α → List Value} {size : Nat} (henc : ∀ x, (enc x).length = size) : ∀ {xs : List α} {k : Nat} {x : α} {i : Nat} {u : Value}, xs[k]? = some x → (enc x)[i]? = some u → (xs.flatMap enc)[k * size + i]? = some u
  | [], k, x, i, u, hk, _ => by simp at hk
  | y :: ys, k, x, i, u, hk, hu => by
    have hi : i < (enc x).length := (List.getElem?_eq_some_iff.1 hu).1
    rw [List.flatMap_cons]
    cases k with
    | zero =>
      have : y = x := by simpa using hk
      subst this
      rw [Nat.zero_mul, Nat.zero_add, List.getElem?_append_left hi]
      exact hu
    | succ k =>
      rw [List.getElem?_append_right (by rw [henc, Nat.succ_mul]; omega), henc, show (k + 1) * size + i - size = k * size + i by rw [Nat.succ_mul]; omega]
      exact flat_get henc (by simpa using hk) hu
theorem flat_length {α : Type} {enc : α → List Value} {size : Nat} (henc : ∀ x, (enc x).length = size) (xs : List α) : (xs.flatMap enc).length = xs.length * size := by
  induction xs with
  | nil => simp
  | cons x xs ih => rw [List.flatMap_cons, List.length_append, henc, ih, List.length_cons, Nat.succ_mul]; omega

/-- A reading out of a row of cells. -/
theorem RSl.mk {α : Type} {enc : α → List Value} {size : Nat} (henc : ∀ x, (enc x).length = size) {w : World} {b o c : Nat} {xs : List α} {cs : List Value} (hc : CellsAt w b o cs) (hp : ∀ (i : Nat) (u : Value), (xs.flatMap enc)[i]? = some u → cs[i]? = some u)
    (h1 : xs.length ≤ c) (h2 : c ≤ 9223372036854775807) : RSl (REnc enc) size w (.slice (some ⟨b, o, none⟩) xs.length c) xs :=
  ⟨some ⟨b, o, none⟩, c, rfl, h1, h2, fun _ => ⟨b, o, rfl, fun k x hx => ⟨enc x, henc x, fun i u hu => by
    rw [Nat.add_assoc]
    exact hc _ _ (hp _ _ (flat_get henc hx hu)), rfl⟩⟩⟩
/-- And back: the cells in a row. -/
theorem RSl.flat {α : Type} {enc : α → List Value} {size : Nat} (henc : ∀ x, (enc x).length = size) {w : World} {v : Value} {xs : List α} (h : RSl (REnc enc) size w v xs) (h0 : 0 < xs.length) :
    ∃ b o c, v = .slice (some ⟨b, o, none⟩) xs.length c ∧ CellsAt w b o (xs.flatMap enc) := by
  obtain ⟨b, o, c, rfl, _, _, hc⟩ := h.at h0
  refine ⟨b, o, c, rfl, ?_⟩
  have key : ∀ (xs : List α) (o : Nat), (∀ (k : Nat) x, xs[k]? = some x → CellsAt w b (o + k * size) (enc x)) → CellsAt w b o (xs.flatMap enc) := by
    intro xs
    induction xs with
    | nil => intro o _ i u hu; simp at hu
    | cons x xs ih =>
      intro o hk i u hu
      rw [List.flatMap_cons] at hu
      rcases Nat.lt_or_ge i (enc x).length with hi | hi
      · rw [List.getElem?_append_left hi] at hu
        have := hk 0 x rfl i u hu
        simpa using this
      · rw [List.getElem?_append_right hi, henc] at hu
        have := ih (o + size) (fun k y hy => by
          have := hk (k + 1) y (by simpa using hy)
          rwa [show o + (k + 1) * size = o + size + k * size by rw [Nat.succ_mul]; omega] at this) (i - size) u hu
        rw [henc] at hi
        rwa [show o + size + (i - size) = o + i by omega] at this
  exact key xs o fun k x hx => by
    obtain ⟨cs, _, hcs, rfl⟩ := hc k x hx
    exact hcs

/-- A row of the call's own, of elements whose cells are known. -/
def Own {α : Type} (enc : α → List Value) (size base : Nat) (e : TypeId) (w : World) (v : Value) (xs : List α) : Prop := w.ownsRow base e size v xs.length (xs.flatMap enc)
theorem Own.nil {α : Type} (enc : α → List Value) (size base : Nat) (e : TypeId) (w : World) : Own enc size base e w (.slice none 0 0) ([] : List α) := ⟨by simp, .inl ⟨rfl, rfl⟩⟩
theorem Own.reads {α : Type} {enc : α → List Value} {size base : Nat} (henc : ∀ x, (enc x).length = size) {e : TypeId} {w : World} {v : Value} {xs : List α} (h : Own enc size base e w v xs) : RSl (REnc enc) size w v xs := RSl.own enc henc h
theorem Own.chg {α : Type} {enc : α → List Value} {size base : Nat} {e : TypeId} {S : Nat → Prop} {w w' : World} {v : Value} {xs : List α} (c : Chg S w w') (h : Own enc size base e w v xs) (hs : ∀ k, v.ownBlock = some k → ¬ S k) : Own enc size base e w' v xs := by
  have hlt := World.ownsRow.lt h
  obtain ⟨h1, h2⟩ := h
  refine ⟨h1, ?_⟩
  rcases h2 with h2 | ⟨g, cap, cur, hv, hb, hh, hr⟩
  · exact .inl h2
  · subst hv
    have hg : g < w.heap.size := (hlt g rfl).2
    exact .inr ⟨g, cap, cur, rfl, hb, (c.block g hg (hs g rfl)).trans hh, hr⟩
theorem Own.ext {α : Type} {enc : α → List Value} {size base : Nat} {e : TypeId} {w w' : World} {v : Value} {xs : List α} (h : Own enc size base e w v xs) (c : Ext w w') : Own enc size base e w' v xs := Own.chg c h (fun _ _ x => x)
theorem Own.base {α : Type} {enc : α → List Value} {size base : Nat} {e : TypeId} {w : World} {v : Value} {xs : List α} (h : Own enc size base e w v xs) {k : Nat} (hk : v.ownBlock = some k) : base ≤ k ∧ k < w.heap.size := World.ownsRow.lt h k hk
theorem Own.lower {α : Type} {enc : α → List Value} {size base base' : Nat} {e : TypeId} {w : World} {v : Value} {xs : List α} (h : Own enc size base e w v xs) (hb : base' ≤ base) : Own enc size base' e w v xs := by
  obtain ⟨h1, h2⟩ := h
  refine ⟨h1, ?_⟩
  rcases h2 with h2 | ⟨g, cap, cur, hv, hg, hr⟩
  · exact .inl h2
  · exact .inr ⟨g, cap, cur, hv, by omega, hr⟩
theorem Own.form {α : Type} {enc : α → List Value} {size base : Nat} {e : TypeId} {w : World} {v : Value} {xs : List α} (h : Own enc size base e w v xs) : ∃ A c, v = .slice A xs.length c ∧ xs.length ≤ c ∧ c ≤ 9223372036854775807 := by
  rcases h.2 with ⟨rfl, h0⟩ | ⟨g, cap, cur, rfl, _, _, h1, h2, _⟩
  · exact ⟨none, 0, by rw [h0], by omega, by omega⟩
  · exact ⟨_, cap, rfl, h1, by simpa [maxLen] using h2⟩
/-- A row whole: its block. -/
theorem Own.blk {α : Type} {enc : α → List Value} {size base : Nat} {e : TypeId} {w : World} {v : Value} {xs : List α} (h : Own enc size base e w v xs) (h0 : 0 < xs.length) :
    ∃ g c sp, v = .slice (some ⟨g, 0, none⟩) xs.length c ∧ base ≤ g ∧ Blk w g e (xs.flatMap enc ++ sp) ∧ xs.length ≤ c ∧ c ≤ 9223372036854775807 ∧ (xs.flatMap enc ++ sp).length = c * size := by
  have h1' := h.1
  rcases h.2 with ⟨rfl, hn⟩ | ⟨g, cap, cur, rfl, hb, hh, h1, h2, h3, h4⟩
  · omega
  · refine ⟨g, cap, cur.toList.drop (xs.length * size), rfl, hb, ?_, h1, by simpa [maxLen] using h2, ?_⟩
    · rw [← h4, List.take_append_drop]
      unfold Blk
      simpa using hh
    · rw [← h4, List.take_append_drop]
      simpa using h3
theorem Own.of_blk {α : Type} {enc : α → List Value} {size base : Nat} {e : TypeId} {w : World} {xs : List α} (henc : ∀ x, (enc x).length = size) {g c : Nat} {sp : List Value} (h : Blk w g e (xs.flatMap enc ++ sp)) (hb : base ≤ g) (h1 : xs.length ≤ c) (h2 : c ≤ 9223372036854775807)
    (h3 : (xs.flatMap enc ++ sp).length = c * size) : Own enc size base e w (.slice (some ⟨g, 0, none⟩) xs.length c) xs := by
  refine ⟨flat_length henc xs, .inr ⟨g, c, (xs.flatMap enc ++ sp).toArray, rfl, hb, h, h1, by simpa [maxLen] using h2, by simpa using h3, ?_⟩⟩
  simp [← flat_length henc xs]

theorem flat_take {α : Type} {enc : α → List Value} {size : Nat} (henc : ∀ x, (enc x).length = size) (xs : List α) (sp : List Value) {i : Nat} (hi : i ≤ xs.length) : (xs.flatMap enc ++ sp).take (i * size) = (xs.take i).flatMap enc := by
  have h : xs.flatMap enc = (xs.take i).flatMap enc ++ (xs.drop i).flatMap enc := by rw [← List.flatMap_append, List.take_append_drop]
  rw [h, List.append_assoc, List.take_left']
  rw [flat_length henc, List.length_take]; congr 1; omega
theorem flat_drop {α : Type} {enc : α → List Value} {size : Nat} (henc : ∀ x, (enc x).length = size) (xs : List α) (sp : List Value) {i : Nat} (hi : i ≤ xs.length) : (xs.flatMap enc ++ sp).drop (i * size) = (xs.drop i).flatMap enc ++ sp := by
  have h : xs.flatMap enc = (xs.take i).flatMap enc ++ (xs.drop i).flatMap enc := by rw [← List.flatMap_append, List.take_append_drop]
  rw [h, List.append_assoc, List.drop_left']
  rw [flat_length henc, List.length_take]; congr 1; omega
theorem splice_flat {α : Type} {enc : α → List Value} {size : Nat} (henc : ∀ x, (enc x).length = size) {xs : List α} {sp : List Value} {i : Nat} {x : α} (hi : i < xs.length) : splice (xs.flatMap enc ++ sp) (i * size) (enc x) = (xs.set i x).flatMap enc ++ sp := by
  have hl : i * size + size ≤ xs.length * size := by rw [← Nat.succ_mul]; exact Nat.mul_le_mul_right _ hi
  rw [splice_eq (by rw [henc, List.length_append, flat_length henc]; omega), henc, flat_take henc xs sp (by omega), ← Nat.succ_mul, flat_drop henc xs sp (by omega), List.set_eq_take_append_cons_drop, if_pos hi, List.flatMap_append, List.flatMap_cons]
  simp
theorem Blk.elem {α : Type} {enc : α → List Value} {size : Nat} (henc : ∀ x, (enc x).length = size) {w : World} {g : Nat} {t : TypeId} {ys : List α} {sp : List Value} (h : Blk w g t (ys.flatMap enc ++ sp)) {j : Nat} {x : α} (hx : ys[j]? = some x) : CellsAt w g (0 + j * size) (enc x) := by
  intro i u hu
  have := flat_get henc hx hu
  rw [Nat.add_assoc]
  refine h.cells.at _ ?_
  rw [List.getElem?_append_left (List.getElem?_eq_some_iff.1 this).1]
  exact this

section
variable {ro : Option Nat} {P : Program} {N : Nat} {D : List Deferred} {l : Env} {w : World} {Q : Exit → Act → World → Prop} {ops : Array Oper} {rest : List Oper}
variable {d : Option Tmp} {ty : TypeId} {pos : String} {af : Array Edge} {gd : Option (Nat × Bool)}

theorem St.bytes {src dst e : TypeId} {u : TypeDesc} {x : Operand} {s : ByteArray} (hs : P.underlying src = some u) (hd : P.underlying dst = some (.slice e)) (he : P.underlying e = some (.int .u8)) (hx : ev l x = some (.string s)) (hmax : s.size ≤ 9223372036854775807) (hN : dstOk N d = true)
    (k : ∀ w' b c, b = w.heap.size → w'.heap.size = b + 1 → Ext w w' → RBytes w' (.slice (some ⟨b, 0, none⟩) s.data.toList.length c) s.data.toList → CellsAt w' b 0 (s.data.toList.flatMap encByte) → St N D (putE d (.slice (some ⟨b, 0, none⟩) s.data.toList.length c) l) (wpl ro P ops Q rest) w') :
    St N D l (wpl ro P ops Q (⟨d, .convert src dst x, ty, pos, af, none⟩ :: rest)) w := by
  have hlen : s.data.toList.length = s.size := by rw [Array.length_toList]; rfl
  have hcells : CellsAt (Lib.bytesWorld w e s) w.heap.size 0 (s.data.toList.flatMap encByte) := by
    intro i v hv
    have hi : i < s.size := by
      have := (List.getElem?_eq_some_iff.1 hv).1
      rw [flat_length (size := 1) (fun _ => rfl)] at this
      omega
    rw [Nat.zero_add, Lib.bytesWorld_cell w e s i hi, ← hv]
    have hg : s.data.toList[i]? = some (s.data.toList[i]'(by omega)) := List.getElem?_eq_getElem (by omega)
    have := flat_get (enc := encByte) (size := 1) (fun _ => rfl) (i := 0) hg rfl
    rw [Nat.mul_one, Nat.add_zero] at this
    rw [this, List.getD_eq_getElem?_getD, hg]
    rfl
  have hcap : s.size ≤ grownCap w s.size 0 e ∧ grownCap w s.size 0 e ≤ 9223372036854775807 := by
    unfold grownCap Question.cut
    have : 2 ^ 63 - s.size > 0 := by omega
    have := Nat.mod_lt (w.tape w.drawn (.appendCap s.size 0 e)) this
    simp only
    omega
  have hconv := Lib.run_convert_string_bytes w src dst e s hs hd he
  generalize grownCap w s.size 0 e = cp at hcap hconv
  refine St.val rfl hN (w' := Lib.bytesWorld w e s) (v := .slice (some ⟨w.heap.size, 0, none⟩) s.size cp) (fun T _ hsl => by
    simp only [execOp, ev_eval hsl hx, Sem.run_bind, hconv, Result.andThen_ok]; rfl) ?_
  rw [← hlen]
  refine k (Lib.bytesWorld w e s) w.heap.size _ rfl (Lib.bytesWorld_size w e s) ⟨rfl, rfl, rfl, by rw [Lib.bytesWorld_size]; omega, fun j hj _ => Lib.bytesWorld_at_old w e s j hj, by unfold Lib.bytesWorld World.freeze; split <;> exact Nat.le_succ _⟩ ?_ hcells
  exact RSl.mk (enc := encByte) (xs := s.data.toList) (fun _ => rfl) hcells (fun i u hu => hu) (by omega) hcap.2

/-! ### cuts -/
theorem run_sliceBound (x : Nat) (y : Nat) (k : IntKind) (code : BoundsCode) (h : x ≤ y) (w : World) : (Instr.sliceBound (.int k (x : Int)) y code).run P w = .ok x w := by
  have : (0 : Int) ≤ (x : Int) ∧ (x : Int) ≤ (y : Int) := by omega
  simp only [Instr.sliceBound, asIntOf, Sem.run_bind, Sem.run_pure, Result.andThen_ok, if_pos this, Int.toNat_natCast]
theorem R.cutHi {t e : TypeId} {x h : Operand} {A : Option Addr} {n c m : Nat} {kd : IntKind} {i : Int} (j : Nat) (ht : P.underlying t = some (.slice e)) (hz : ∀ w, (sizeOf e).run P w = .ok m w) (hx : ev l x = some (.slice A n c)) (hh : ev l h = some (.int kd i)) (hj : i = (j : Int)) (hjc : j ≤ c) :
    Runs P N D l w ⟨d, .slice t x none (some h) none, ty, pos, af, gd⟩ (.slice A j c) w := fun T _ hs => by
  subst hj
  simp only [execOp, ev_eval hs hx, Option.map_none, Option.map_some, ev_eval hs hh, Instr.sliceAt, Instr.slice, Sem.run_bind, run_underlying ht, Result.andThen_ok, Instr.sliceBounds, Sem.run_pure, run_sliceBound _ _ _ _ hjc, Option.isSome_none, Bool.false_eq_true, if_false, hz]
  have hA : (if c = 0 then A else A.map (·.add (0 * m))) = A := by split <;> cases A <;> simp [Addr.add]
  simp only [Sem.run_pure, Nat.sub_zero, hA]
/-- 'xs[j:]' with an element left. -/
theorem R.cutLo {t e : TypeId} {x h : Operand} {b o n c m : Nat} {kd : IntKind} {i : Int} (j : Nat) (ht : P.underlying t = some (.slice e)) (hz : ∀ w, (sizeOf e).run P w = .ok m w) (hx : ev l x = some (.slice (some ⟨b, o, none⟩) n c)) (hh : ev l h = some (.int kd i)) (hj : i = (j : Int)) (hjn : j ≤ n) (hjc : j < c) :
    Runs P N D l w ⟨d, .slice t x (some h) none none, ty, pos, af, gd⟩ (.slice (some ⟨b, o + j * m, none⟩) (n - j) (c - j)) w := fun T _ hs => by
  subst hj
  have hne : ¬ c = j := by omega
  simp only [execOp, ev_eval hs hx, Option.map_none, Option.map_some, ev_eval hs hh, Instr.sliceAt, Instr.slice, Sem.run_bind, run_underlying ht, Result.andThen_ok, Instr.sliceBounds, Sem.run_pure, run_sliceBound _ _ _ _ hjn, Option.isSome_none, Bool.false_eq_true, if_false, hz, if_neg hne, add_lit]
/-! ### clear: of no element, or the rest of a block -/
theorem St.clear {t e : TypeId} {x : Operand} {b o n c : Nat} {z : Value} {T' : TypeId} {cs : List Value} (ht : P.underlying t = some (.slice e)) (hz : ∀ w, (zeroValue e).run P w = .ok z w) (hx : ev l x = some (.slice (some ⟨b, o, none⟩) n c)) (hn : 0 < n)
    (hb : Blk w b T' cs) (hl : o + n * z.cells.size ≤ cs.length) (h1 : ∀ u ∈ (Builtin.zeroCells z.cells n).toList, u.oneCell' = true)
    (k : ∀ w', Blk w' b T' (splice cs o (Builtin.zeroCells z.cells n).toList) → Chg (fun k => k = b) w w' → w'.heap.size = w.heap.size → St N D l (wpl ro P ops Q rest) w') :
    St N D l (wpl ro P ops Q (⟨none, .call { callee := .builtin .clear, args := #[x], argTypes := #[t] }, ty, pos, af, none⟩ :: rest)) w := by
  obtain ⟨w', hr, hb', hg, hs'⟩ := run_storeCells (P := P) (vs := (Builtin.zeroCells z.cells n).toList) o 0 hb (by simpa [Builtin.zeroCells] using hl) h1
  refine St.r (v := .tuple #[]) (w' := w') (fun T _ hs => ?_) rfl rfl (k w' hb' hg hs')
  simp only [execOp, resolve, invoke, builtin, Sem.run_bind, Sem.run_pure, Result.andThen_ok, List.map_toArray, List.map_cons, List.map_nil, ev_eval hs hx]
  obtain ⟨n, rfl⟩ : ∃ m, n = m + 1 := ⟨n - 1, by omega⟩
  simp [Builtin.clear_, run_underlying ht, hz, hr]

theorem zeroCells_one {z : Array Value} (hz : 0 < z.size) (h : ∀ u ∈ z.toList, u.oneCell' = true) (n : Nat) : ∀ u ∈ (Builtin.zeroCells z n).toList, u.oneCell' = true := by
  intro u hu
  simp only [Builtin.zeroCells, Array.toList_map, List.mem_map] at hu
  obtain ⟨i, _, rfl⟩ := hu
  have hlt : i % z.size < z.size := Nat.mod_lt _ hz
  rw [getElem!_pos z (i % z.size) hlt]
  exact h _ (by simp)

/-! ### append -/
theorem run_append_none (w : World) {base size : Nat} {t ty e : TypeId} {i : TypeInfo} (ht : P.underlying t = some (.slice e)) (hi : P.info? e = some i) {v : Value} {n : Nat} {xs : List Value} (h : w.ownsRow base e size v n xs) (c : Nat) :
    (Builtin.append_ #[t, t] ty #[v, .slice none 0 c]).run P w = .ok v w := by
  rcases h.2 with ⟨rfl, rfl⟩ | ⟨g, cap, cur, rfl, _, _, hnc, _⟩
  · simp [Builtin.append_, run_underlying ht, sizeOf, typeInfo, hi, Builtin.lenOf, Builtin.firstCells]
  · simp [Builtin.append_, run_underlying ht, sizeOf, typeInfo, hi, Builtin.lenOf, Builtin.firstCells, hnc, storeCells]

theorem run_append {α : Type} {enc : α → List Value} {size base bytes : Nat} (henc : ∀ x, (enc x).length = size) (h1 : ∀ x, ∀ u ∈ enc x, u.oneCell' = true) {t e : TypeId} {z : Value} (ht : P.underlying t = some (.slice e))
    (hinfo : (P.info? e).map (fun i => (i.zero, i.size, i.bytes)) = some (some z, size, bytes)) (hzs : z.cells.size = size) (hsz : Nat.blt 0 size = true) {v xv : Value} {xs ys : List α} (hown : Own enc size base e w v xs) (hr : RSl (REnc enc) size w xv ys)
    (h63 : xs.length + ys.length ≤ 9223372036854775807) (hb : (xs.length + ys.length) * bytes ≤ 140737488355328) (hbase : base ≤ w.heap.size) :
    ∃ v' w', (Builtin.append_ #[t, t] ty #[v, xv]).run P w = .ok v' w' ∧ Own enc size base e w' v' (xs ++ ys) ∧ Chg (fun k => v.ownBlock = some k) w w' ∧ (v'.ownBlock = v.ownBlock ∨ v'.ownBlock = some w.heap.size) := by
  obtain ⟨i0, hi, hzz⟩ := Option.map_eq_some_iff.1 hinfo
  simp only [Prod.mk.injEq] at hzz
  obtain ⟨hz0, hz1, hz2⟩ := hzz
  have hsz' : 0 + 1 ≤ size := by simpa [Nat.blt] using hsz
  have hrun : ∃ v' w', (Builtin.append_ #[t, t] ty #[v, xv]).run P w = .ok v' w' ∧ Own enc size base e w' v' (xs ++ ys) ∧ w.grownBy w' v.ownBlock ∧ (v'.ownBlock = v.ownBlock ∨ v'.ownBlock = some w.heap.size) := by
    rcases Nat.eq_zero_or_pos ys.length with h0 | h0
    · have hys : ys = [] := List.eq_nil_of_length_eq_zero h0
      subst hys
      obtain ⟨A, c, rfl, _, _⟩ := hr.form
      rw [List.append_nil]
      cases A with
      | none => exact ⟨v, w, run_append_none w ht hi hown c, hown, ⟨rfl, rfl, rfl, Nat.le_refl _, fun _ _ _ => rfl⟩, .inl rfl⟩
      | some a =>
        obtain ⟨v', w', g1, g2, g3, _, g5⟩ := run_append_own_at (P := P) w base t ty e i0 z size bytes ht hi hz0 hz1 hz2 hzs hsz' v xs.length (xs.flatMap enc) hown a 0 c [] (by simp) (by intro j u hu; simp at hu) (by simp) (by simp only [maxLen]; omega) (by simpa using hb) hbase
        exact ⟨v', w', g1, by simpa [Own] using g2, g3, g5⟩
    · obtain ⟨b, o, c, rfl, hcells⟩ := hr.flat henc h0
      obtain ⟨v', w', g1, g2, g3, _, g5⟩ := run_append_own_at (P := P) w base t ty e i0 z size bytes ht hi hz0 hz1 hz2 hzs hsz' v xs.length (xs.flatMap enc) hown ⟨b, o, none⟩ ys.length c (ys.flatMap enc) (flat_length henc ys) (fun j u hu => by rw [add_lit]; exact hcells j u hu)
        (by intro u hu; rw [List.mem_flatMap] at hu; obtain ⟨y, _, hy⟩ := hu; exact h1 y u hy) (by simp only [maxLen]; omega) hb hbase
      exact ⟨v', w', g1, by unfold Own; rw [List.length_append, List.flatMap_append]; exact g2, g3, g5⟩
  obtain ⟨v', w', g1, g2, g3, g4⟩ := hrun
  exact ⟨v', w', g1, g2, (Chg.of_grown g3 (sem_drawn _ _ _ _ g1)).mono fun k _ h => h.symm, g4⟩
theorem St.append {α : Type} {enc : α → List Value} {size base bytes : Nat} (henc : ∀ x, (enc x).length = size) (h1 : ∀ x, ∀ u ∈ enc x, u.oneCell' = true) {s x : Operand} {t e : TypeId} {z : Value} (ht : P.underlying t = some (.slice e))
    (hinfo : (P.info? e).map (fun i => (i.zero, i.size, i.bytes)) = some (some z, size, bytes)) (hzs : z.cells.size = size) (hsz : Nat.blt 0 size = true) {v xv : Value} {xs ys : List α} (hs : ev l s = some v) (hx : ev l x = some xv) (hown : Own enc size base e w v xs) (hr : RSl (REnc enc) size w xv ys)
    (h63 : xs.length + ys.length ≤ 9223372036854775807) (hb : (xs.length + ys.length) * bytes ≤ 140737488355328) (hbase : base ≤ w.heap.size) (hN : dstOk N d = true)
    (k : ∀ v' w', Own enc size base e w' v' (xs ++ ys) → Chg (fun k => v.ownBlock = some k) w w' → (v'.ownBlock = v.ownBlock ∨ v'.ownBlock = some w.heap.size) → St N D (putE d v' l) (wpl ro P ops Q rest) w') :
    St N D l (wpl ro P ops Q (⟨d, .call { callee := .builtin .append, args := #[s, x], argTypes := #[t, t] }, ty, pos, af, none⟩ :: rest)) w := by
  obtain ⟨v', w', g1, g2, g3, g4⟩ := run_append (P := P) (ty := ty) henc h1 ht hinfo hzs hsz hown hr h63 hb hbase
  refine St.r (v := v') (w' := w') (fun T _ hsl => ?_) rfl hN (k v' w' g2 g3 g4)
  simp only [execOp, resolve, invoke, builtin, Sem.run_bind, Sem.run_pure, Result.andThen_ok, List.map_toArray, List.map_cons, List.map_nil, ev_eval hsl hs, ev_eval hsl hx, g1]
end
end Go.Proofs.YtjgcmpondbocfaaGreatDoor
