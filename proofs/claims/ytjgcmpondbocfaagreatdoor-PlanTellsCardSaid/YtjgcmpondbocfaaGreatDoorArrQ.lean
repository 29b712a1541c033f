/- Arrays as values: an element of one, one out of parts. A map copied. A slice looked through with a state. No condition. -/
import Derived.Test.YtjgcmpondbocfaaGreatDoorBytes
import Derived.Test.YtjgcmpondbocfaaGreatDoorMaps
import Derived.Test.YtjgcmpondbocfaaGreatDoorTermPure
namespace Go.Proofs.YtjgcmpondbocfaaGreatDoor
open Go.RowKit
section
variable {ro : Option Nat} {P : Program} {N : Nat} {D : List Deferred} {l : Env} {w : World} {Q : Exit → Act → World → Prop} {ops : Array Oper} {rest : List Oper}
variable {d : Option Tmp} {ty : TypeId} {pos : String} {af : Array Edge} {gd : Option (Nat × Bool)}
theorem R.idxArr {t e : TypeId} {x ix : Operand} {kd : IntKind} {i : Int} {m n : Nat} {cs ds : List Value} (j : Nat) (ht : P.underlying t = some (.array m e)) (ha : ∀ w, (isAgg e).run P w = .ok true w) (hz : ∀ w, (sizeOf e).run P w = .ok n w) (hx : ev l x = some (.agg cs.toArray)) (hi : ev l ix = some (.int kd i)) (hj : i = (j : Int)) (hm : j < m) (hd : (cs.drop (j * n)).take n = ds) :
    Runs P N D l w ⟨d, .index t x ix, ty, pos, af, gd⟩ (.agg ds.toArray) w := fun T _ hs => by
  subst hj hd
  have h0 : (0 : Int) ≤ (j : Int) ∧ (j : Int) < (m : Int) := by omega
  simp only [execOp, ev_eval hs hx, ev_eval hs hi, Instr.index, asIntOf, Sem.run_bind, Sem.run_pure, run_underlying ht, Result.andThen_ok, if_pos h0, Int.toNat_natCast, hz, part, ha, if_true]
  simp
theorem R.buildA {t e : TypeId} {m n : Nat} {parts : Array (Nat × Operand)} {z : Value} {vs : List Value} (ht : P.underlying t = some (.array n e)) (hze : ∀ w, (sizeOf e).run P w = .ok m w) (hz : ∀ w, (zeroValue t).run P w = .ok z w) (hzs : Nat.beq z.cells.size (n * m) = true)
    (hi : parts.toList.map (·.1) = List.range' 0 n) (hv : evs l (parts.toList.map (·.2)) = some vs) (hs : ∀ v ∈ vs, v.cells.size = m) : Runs P N D l w ⟨d, .build t parts, ty, pos, af, gd⟩ (.agg (vs.flatMap fun v => v.cells.toList).toArray) w := fun T _ hsl => by
  have hlen : vs.length = n := by
    have h1 : ∀ (xs : List Operand) (us : List Value), evs l xs = some us → us.length = xs.length := by
      intro xs
      induction xs with
      | nil => intro us h; simp only [evs, Option.some.injEq] at h; subst h; rfl
      | cons x r ih =>
        intro us h
        simp only [evs] at h
        split at h
        · cases h
        · split at h
          · cases h
          · rename_i u _ _ us' hus
            injection h with h; subst h
            simp [ih _ hus]
    have h2 := h1 _ _ hv
    have h3 := congrArg List.length hi
    simp at h2 h3
    omega
  have hzs' : z.cells.size = n * m := Nat.eq_of_beq_eq_true hzs
  have hf := fill_all vs 0 z.cells hs (by rw [Nat.zero_add, hlen, hzs'])
  rw [hlen] at hf
  simp only [Nat.zero_mul, List.take_zero, List.nil_append] at hf
  have hp : (parts.map fun (i, x) => (i, Act.eval ⟨T, D⟩ x)).toList = (List.range' 0 n).zip vs := by
    rw [← hi, ← evs_eval (D := D) hsl hv, List.map_map, List.zip_map', Array.toList_map]
    exact List.map_congr_left fun _ _ => rfl
  simp only [execOp, Instr.build, Sem.run_bind, hz, run_underlying ht, Result.andThen_ok, hze, hp, hf, Sem.run_pure]
theorem Eff.makeSl {t e : TypeId} {x y : Operand} {n bytes : Nat} {i : Int} {z : Value} (ht : P.underlying t = some (.slice e)) (hinfo : (P.info? e).map (fun i => (i.zero, i.size, i.bytes)) = some (some z, 1, bytes)) (hz1 : z.cells = #[z])
    (hx : ev l x = some (.int .i64 i)) (hy : ev l y = some (.int .i64 i)) (hi : i = (n : Int)) (hb : bytes * n ≤ 281474976710656) (h63 : n ≤ 9223372036854775807) :
    Eff P N D l w ⟨d, .makeSlice t x y, ty, pos, af, gd⟩ fun v w' => ∃ b, v = .slice (some ⟨b, 0, none⟩) n n ∧ b = w.heap.size ∧ w'.heap.size = b + 1 ∧ Ext w w' ∧ Blk w' b e (List.replicate n z) := fun T _ hsl => by
  subst hi
  obtain ⟨i0, hi, hzz⟩ := Option.map_eq_some_iff.1 hinfo
  simp only [Prod.mk.injEq] at hzz
  obtain ⟨hz0, hs0, hb0⟩ := hzz
  have hrun := run_make (P := P) (w := w) t e i0 z ht hi hz0 .i64 .i64 (n : Int) (n : Int) (by omega) (Int.le_refl _) (by rw [hb0, ← Int.natCast_mul]; omega) (by omega)
  rw [hs0, Int.toNat_natCast, Nat.mul_one, hz1] at hrun
  have hcells : (madeCells #[z] n) = (List.replicate n z).toArray := by rw [← made_one z n]
  rw [hcells] at hrun
  refine .inl ⟨.slice (some ⟨w.heap.size, 0, none⟩) n n, w.alloc (.cells (List.replicate n z).toArray e), ⟨w.heap.size, rfl, rfl, Array.size_push _, Ext.alloc _ _, Blk.new w e _⟩, ?_⟩
  simp only [execOp, ev_eval hsl hx, ev_eval hsl hy, Sem.run_bind, hrun, Result.andThen_ok]
  rfl
end
/-- An element's cells, cut out of the row. -/
theorem flat_cut {α : Type} {enc : α → List Value} {size : Nat} (henc : ∀ x, (enc x).length = size) {xs : List α} {k : Nat} {x : α} (hx : xs[k]? = some x) : ((xs.flatMap enc).drop (k * size)).take size = enc x := by
  have h := flat_drop henc xs [] (i := k) (Nat.le_of_lt (lt_of_get hx))
  rw [List.append_nil] at h
  rw [h, drop_at hx, List.flatMap_cons, List.append_nil, List.take_left' (henc x)]
/-- What is so stays so when blocks come. -/
structure Stay (J : World → Prop) (w : World) : Prop where
  h : J w
  cl : ∀ W W', J W → Ext W W' → J W'
theorem Stay.ext {J : World → Prop} {w w' : World} (h : Stay J w) (c : Ext w w') : Stay J w' := ⟨h.cl _ _ h.h c, h.cl⟩
theorem Stay.to {J K : World → Prop} {w w' : World} (_h : Stay J w) (k : K w') (cl : ∀ W W', K W → Ext W W' → K W') : Stay K w' := ⟨k, cl⟩
end Go.Proofs.YtjgcmpondbocfaaGreatDoor
