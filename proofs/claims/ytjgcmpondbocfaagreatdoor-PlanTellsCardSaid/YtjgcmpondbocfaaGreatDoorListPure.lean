/- Plain lists. No condition. -/
import Derived.Test.YtjgcmpondbocfaaGreatDoorSlices
namespace Go.Proofs.YtjgcmpondbocfaaGreatDoor

/-- Where the first element lies of which p holds; -1: nowhere. -/
def idxOf {α : Type} (p : α → Bool) : List α → Int
  | [] => -1
  | x :: r => if p x then 0 else if idxOf p r < 0 then -1 else idxOf p r + 1
theorem idxOf_none {α : Type} {p : α → Bool} : ∀ {xs : List α}, (∀ x ∈ xs, p x = false) → idxOf p xs = -1
  | [], _ => rfl
  | x :: r, h => by
    have h1 := h x List.mem_cons_self
    have h2 := idxOf_none (p := p) (xs := r) (fun y hy => h y (List.mem_cons_of_mem _ hy))
    simp [idxOf, h1, h2]
theorem idxOf_found {α : Type} {p : α → Bool} : ∀ {xs : List α} {k : Nat} {x : α}, xs[k]? = some x → p x = true → (∀ y ∈ xs.take k, p y = false) → idxOf p xs = k
  | [], k, x, h, _, _ => by simp at h
  | y :: r, k, x, h, hx, hall => by
    cases k with
    | zero =>
      have : y = x := by simpa using h
      subst this
      simp [idxOf, hx]
    | succ k =>
      have h1 : p y = false := hall y (by simp)
      have h2 := idxOf_found (p := p) (xs := r) (k := k) (by simpa using h) hx (fun z hz => hall z (by simp [hz]))
      have : ¬ ((k : Int) < 0) := by omega
      simp [idxOf, h1, h2, this]
theorem idxOf_cases {α : Type} (p : α → Bool) (xs : List α) : (idxOf p xs = -1 ∧ ∀ x ∈ xs, p x = false) ∨ ∃ (k : Nat) (x : α), idxOf p xs = (k : Int) ∧ xs[k]? = some x ∧ p x = true ∧ ∀ y ∈ xs.take k, p y = false := by
  induction xs with
  | nil => exact .inl ⟨rfl, by simp⟩
  | cons y r ih =>
    cases hy : p y with
    | true => exact .inr ⟨0, y, by simp [idxOf, hy], rfl, hy, by simp⟩
    | false =>
      rcases ih with ⟨h1, h2⟩ | ⟨k, x, h1, h2, h3, h4⟩
      · refine .inl ⟨by simp [idxOf, hy, h1], fun x hx => ?_⟩
        rcases List.mem_cons.1 hx with rfl | hx
        · exact hy
        · exact h2 x hx
      · have : ¬ ((k : Int) < 0) := by omega
        refine .inr ⟨k + 1, x, by simp [idxOf, hy, h1, this], by simpa using h2, h3, fun z hz => ?_⟩
        rw [List.take_succ_cons] at hz
        rcases List.mem_cons.1 hz with rfl | hz
        · exact hy
        · exact h4 z hz
theorem idxOf_any {α : Type} (p : α → Bool) (xs : List α) : decide (0 ≤ idxOf p xs) = xs.any p := by
  rcases idxOf_cases p xs with ⟨h1, h2⟩ | ⟨k, x, h1, h2, h3, _⟩
  · rw [h1]
    have : xs.any p = false := List.any_eq_false.2 (fun x hx => by simp [h2 x hx])
    rw [this]; rfl
  · rw [h1]
    have : xs.any p = true := List.any_eq_true.2 ⟨x, List.mem_of_getElem? h2, h3⟩
    rw [this]; simp

theorem filter_snoc {α : Type} (p : α → Bool) (xs : List α) (x : α) : (xs ++ [x]).filter p = xs.filter p ++ if p x then [x] else [] := by
  rw [List.filter_append]; cases h : p x <;> simp [List.filter_cons, h]
theorem isSome_false {α : Type} {o : Option α} (h : o.isSome = false) : o = none := by cases o <;> simp_all
theorem one_int (x : Int) : ∀ u ∈ encInt x, u.oneCell' = true := by intro u hu; simp [encInt] at hu; subst hu; rfl
end Go.Proofs.YtjgcmpondbocfaaGreatDoor
