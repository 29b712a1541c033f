/- Of commits: who comes of whom, in plain Lean. No condition. -/
import Derived.Test.YtjgcmpondbocfaaGreatDoorListPure
namespace Go.Proofs.YtjgcmpondbocfaaGreatDoor

/-! ### faults -/
section
variable {c : Commit} {i : Int}
end
/-! ### a set that is written place by place -/
def Mid (f : Nat → Bool) (old : List Bool) (k : Nat) (s : List Bool) : Prop := s.length = 60 ∧ (∀ i, i < k → s[i]? = some (f i)) ∧ ∀ i, k ≤ i → s[i]? = old[i]?
theorem Mid.start (f : Nat → Bool) {old : List Bool} (h : old.length = 60) : Mid f old 0 old := ⟨h, fun i hi => by omega, fun _ _ => rfl⟩
theorem Mid.step {f : Nat → Bool} {old s : List Bool} {k : Nat} (h : Mid f old k s) (hk : k < 60) : Mid f old (k + 1) (s.set k (f k)) := by
  obtain ⟨h1, h2, h3⟩ := h
  refine ⟨by rw [List.length_set]; exact h1, fun i hi => ?_, fun i hi => ?_⟩
  · by_cases e : i = k
    · subst e; rw [List.getElem?_set_self (by omega)]
    · rw [List.getElem?_set_ne (by omega)]; exact h2 i (by omega)
  · rw [List.getElem?_set_ne (by omega)]; exact h3 i (by omega)
theorem Mid.all {f : Nat → Bool} {old s : List Bool} (h : Mid f old 60 s) : s = (List.range 60).map f := by
  obtain ⟨h1, h2, _⟩ := h
  apply List.ext_getElem?
  intro i
  rcases Nat.lt_or_ge i 60 with hi | hi
  · rw [h2 i hi]; simp [hi]
  · rw [List.getElem?_eq_none (by omega), List.getElem?_eq_none (by simp; omega)]

/-! ### bases -/
end Go.Proofs.YtjgcmpondbocfaaGreatDoor
