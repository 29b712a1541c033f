/- More rules: a letter of a string, a slice made. No condition. -/
import Derived.Test.YtjgcmpondbocfaaGreatDoorEff
import Derived.Laws.MakeOwn
namespace Go.Proofs.YtjgcmpondbocfaaGreatDoor
open Go.RowKit

section
variable {ro : Option Nat} {P : Program} {N : Nat} {D : List Deferred} {l : Env} {w : World} {Q : Exit → Act → World → Prop} {ops : Array Oper} {rest : List Oper}
variable {d : Option Tmp} {ty : TypeId} {pos : String} {af : Array Edge} {gd : Option (Nat × Bool)}

theorem R.idxStr {t : TypeId} {x ix : Operand} {kd : IntKind} {i : Int} {s : ByteArray} {c : UInt8} (j : Nat) (ht : P.underlying t = some .string) (hx : ev l x = some (.string s)) (hi : ev l ix = some (.int kd i)) (hj : i = (j : Int)) (hc : s.data.toList[j]? = some c) :
    Runs P N D l w ⟨d, .index t x ix, ty, pos, af, gd⟩ (.int .u8 (c.toNat : Int)) w := fun T _ hs => by
  subst hj
  have h0 : (0 : Int) ≤ (j : Int) := by omega
  have hg : s[j]? = some c := by
    obtain ⟨hlt, he⟩ := List.getElem?_eq_some_iff.1 hc
    have h1 : j < s.size := by simpa using hlt
    rw [getElem?_pos s j h1]
    have : s[j] = s.data.toList[j] := by
      show s.data[j] = _
      simp
    rw [this, he]
  simp only [execOp, ev_eval hs hx, ev_eval hs hi, Instr.index, asIntOf, Sem.run_bind, Sem.run_pure, run_underlying ht, Result.andThen_ok, if_pos h0, Int.toNat_natCast, hg]

theorem made_one (z : Value) (n : Nat) : (madeCells #[z] n).toList = List.replicate n z := by
  unfold madeCells
  rw [Array.toList_map]
  apply List.ext_getElem?
  intro i
  simp only [List.getElem?_map, Array.toList_range, List.getElem?_replicate]
  by_cases h : i < n
  · simp [h, Nat.mod_one]
  · simp [h]
theorem St.makeSl {t e : TypeId} {x y : Operand} {n bytes : Nat} {i : Int} {z : Value} (ht : P.underlying t = some (.slice e)) (hinfo : (P.info? e).map (fun i => (i.zero, i.size, i.bytes)) = some (some z, 1, bytes)) (hz1 : z.cells = #[z])
    (hx : ev l x = some (.int .i64 i)) (hy : ev l y = some (.int .i64 i)) (hi : i = (n : Int)) (hb : bytes * n ≤ 281474976710656) (h63 : n ≤ 9223372036854775807) (hN : dstOk N d = true)
    (k : ∀ w' b, b = w.heap.size → w'.heap.size = b + 1 → Ext w w' → Blk w' b e (List.replicate n z) → St N D (putE d (.slice (some ⟨b, 0, none⟩) n n) l) (wpl ro P ops Q rest) w') :
    St N D l (wpl ro P ops Q (⟨d, .makeSlice t x y, ty, pos, af, none⟩ :: rest)) w := by
  subst hi
  obtain ⟨i0, hi, hzz⟩ := Option.map_eq_some_iff.1 hinfo
  simp only [Prod.mk.injEq] at hzz
  obtain ⟨hz0, hs0, hb0⟩ := hzz
  have hrun := run_make (P := P) (w := w) t e i0 z ht hi hz0 .i64 .i64 (n : Int) (n : Int) (by omega) (Int.le_refl _) (by rw [hb0, ← Int.natCast_mul]; omega) (by omega)
  rw [hs0, Int.toNat_natCast, Nat.mul_one, hz1] at hrun
  have hcells : (madeCells #[z] n) = (List.replicate n z).toArray := by rw [← made_one z n]
  rw [hcells] at hrun
  exact St.val rfl hN (fun T _ hsl => by
    simp only [execOp, ev_eval hsl hx, ev_eval hsl hy, Sem.run_bind, hrun, Result.andThen_ok]
    rfl) (k (w.alloc (.cells (List.replicate n z).toArray e)) w.heap.size rfl (Array.size_push _) (Ext.alloc _ _) (Blk.new w e _))
end
end Go.Proofs.YtjgcmpondbocfaaGreatDoor
