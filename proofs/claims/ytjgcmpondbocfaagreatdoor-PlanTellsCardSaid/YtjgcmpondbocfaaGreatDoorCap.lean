/- A slice made empty, with room. No condition. -/
import Derived.Test.YtjgcmpondbocfaaGreatDoorArrQ
namespace Go.Proofs.YtjgcmpondbocfaaGreatDoor
open Go.RowKit
section
variable {ro : Option Nat} {P : Program} {N : Nat} {D : List Deferred} {l : Env} {w : World} {Q : Exit → Act → World → Prop} {ops : Array Oper} {rest : List Oper}
variable {d : Option Tmp} {ty : TypeId} {pos : String} {af : Array Edge} {gd : Option (Nat × Bool)}
theorem St.makeCap {α : Type} {enc : α → List Value} {size : Nat} (henc : ∀ x, (enc x).length = size) {t e : TypeId} {x y : Operand} {n bytes : Nat} {i : Int} {z : Value} (ht : P.underlying t = some (.slice e)) (hinfo : (P.info? e).map (fun i => (i.zero, i.size, i.bytes)) = some (some z, size, bytes))
    (hx : ev l x = some (.int .i64 0)) (hy : ev l y = some (.int .i64 i)) (hi : i = (n : Int)) (hb : bytes * n ≤ 281474976710656) (h63 : n ≤ 9223372036854775807) (hN : dstOk N d = true)
    (k : ∀ w' b, b = w.heap.size → w'.heap.size = b + 1 → Ext w w' → (∀ base, base ≤ b → Own enc size base e w' (.slice (some ⟨b, 0, none⟩) 0 n) ([] : List α)) → St N D (putE d (.slice (some ⟨b, 0, none⟩) 0 n) l) (wpl ro P ops Q rest) w') :
    St N D l (wpl ro P ops Q (⟨d, .makeSlice t x y, ty, pos, af, none⟩ :: rest)) w := by
  subst hi
  obtain ⟨i0, hi, hzz⟩ := Option.map_eq_some_iff.1 hinfo
  simp only [Prod.mk.injEq] at hzz
  obtain ⟨hz0, hs0, hb0⟩ := hzz
  have hrun := run_make (P := P) (w := w) t e i0 z ht hi hz0 .i64 .i64 0 (n : Int) (Int.le_refl _) (by omega) (by rw [hb0, ← Int.natCast_mul]; omega) (by omega)
  rw [hs0, Int.toNat_natCast, show (0 : Int).toNat = 0 from rfl] at hrun
  refine St.val rfl hN (fun T _ hsl => by
    simp only [execOp, ev_eval hsl hx, ev_eval hsl hy, Sem.run_bind, hrun, Result.andThen_ok]
    rfl) (k (w.alloc (.cells (madeCells z.cells (n * size)) e)) w.heap.size rfl (Array.size_push _) (Ext.alloc _ _) fun base hbase => ?_)
  have hk : Blk (w.alloc (.cells (madeCells z.cells (n * size)) e)) w.heap.size e (madeCells z.cells (n * size)).toList := by
    have := Blk.new w e (madeCells z.cells (n * size)).toList
    simpa using this
  exact Own.of_blk (xs := ([] : List α)) henc (sp := (madeCells z.cells (n * size)).toList) (by simpa using hk) hbase (Nat.zero_le _) (by omega) (by simp [size_madeCells])
end
end Go.Proofs.YtjgcmpondbocfaaGreatDoor
