/- What comes of two that came of one, in plain Lean. No condition. -/
import Derived.Test.YtjgcmpondbocfaaGreatDoorMergePure
namespace Go.Proofs.YtjgcmpondbocfaaGreatDoor
theorem orI_assoc (a b c : Int) : orI a (orI b c) = orI (orI a b) c := by
  unfold orI
  by_cases h : a = 0 <;> simp [h]
theorem tripCmp_key (a b : Triple) : tripCmp a b = orI (clashCmp (keyOf a) (keyOf b)) (termCmp a.o b.o) := by
  unfold tripCmp clashCmp keyOf; rw [orI_assoc]
/-! ### the law -/
end Go.Proofs.YtjgcmpondbocfaaGreatDoor
