/- '<' and '>' on texts. No condition. -/
import Derived.Test.YtjgcmpondbocfaaGreatDoorTermPure
import Derived.Laws.Cover1
namespace Go.Proofs.YtjgcmpondbocfaaGreatDoor
open Go.RowKit
theorem bytesLess_cmp : ∀ a b : List UInt8, Op.bytesLess a b = decide (cmpL a b < 0)
  | [], [] => by simp [Op.bytesLess, cmpL, Go.Lib.compareBytes]
  | [], _ :: _ => by simp [Op.bytesLess, cmpL, Go.Lib.compareBytes]
  | _ :: _, [] => by simp [Op.bytesLess, cmpL, Go.Lib.compareBytes]
  | x :: xs, y :: ys => by
    have ih := bytesLess_cmp xs ys
    simp only [cmpL] at ih
    simp only [Op.bytesLess, cmpL, Go.Lib.compareBytes, ih]
    by_cases h : x < y
    · simp [h]
    · by_cases h2 : y < x
      · have : x ≠ y := fun e => by subst e; exact h h2
        simp [h, h2, this]
      · have : x = y := by rw [u8_eq]; rw [u8_lt] at h h2; omega
        subst this
        simp [h]
        try congr
theorem lessS (a b : ByteArray) : Op.bytesLess a.toList b.toList = decide (cmpS a b < 0) := by
  rw [bytesLess_cmp, ByteArray.toList_eq, ByteArray.toList_eq]; rfl
theorem gtrS (a b : ByteArray) : (!(Op.bytesLess a.toList b.toList || a.toList == b.toList)) = decide (0 < cmpS a b) := by
  rw [lessS, eqS_dec]
  have h1 := cmpS_is.eq a b
  by_cases h : cmpS a b = 0
  · have := h1.1 h; subst this; simp [h]
  · have hne : ¬ a = b := fun e => h (h1.2 e)
    simp only [hne, decide_false, Bool.or_false]
    by_cases h3 : cmpS a b < 0
    · rw [decide_eq_true h3, decide_eq_false (by omega)]; rfl
    · rw [decide_eq_false h3, decide_eq_true (by omega)]; rfl
section
variable {P : Program} {N : Nat} {D : List Deferred} {l : Env} {w : World} {d : Option Tmp} {ty : TypeId} {pos : String} {af : Array Edge} {gd : Option (Nat × Bool)}
theorem R.ltS {t t' : TypeId} {x y : Operand} {a b : ByteArray} (hx : ev l x = some (.string a)) (hy : ev l y = some (.string b)) : Runs P N D l w ⟨d, .binOp .lss t x y t', ty, pos, af, gd⟩ (.bool (decide (cmpS a b < 0))) w :=
  R.bin hx hy (run_eqGuard_string ..) (by rw [binOp_string_lss, lessS]; rfl)
theorem R.gtS {t t' : TypeId} {x y : Operand} {a b : ByteArray} (hx : ev l x = some (.string a)) (hy : ev l y = some (.string b)) : Runs P N D l w ⟨d, .binOp .gtr t x y t', ty, pos, af, gd⟩ (.bool (decide (0 < cmpS a b))) w :=
  R.bin hx hy (run_eqGuard_string ..) (by rw [binOp_string_gtr, gtrS]; rfl)
end
end Go.Proofs.YtjgcmpondbocfaaGreatDoor
