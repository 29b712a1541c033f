/- What a sort by an order gives: a list that rises. No condition. -/
import Derived.Test.YtjgcmpondbocfaaGreatDoorSortK
import Derived.Test.YtjgcmpondbocfaaGreatDoorTermPure
namespace Go.Proofs.YtjgcmpondbocfaaGreatDoor
open Go.Sort Go.Shelf
theorem ltOf_iff {α : Type} {cf : α → α → Int} {x y : α} : ltOf cf x y = true ↔ cf x y < 0 := by unfold ltOf; exact decide_eq_true_iff
theorem ltOf_not {α : Type} {cf : α → α → Int} {x y : α} : ltOf cf x y = false ↔ 0 ≤ cf x y := by unfold ltOf; rw [decide_eq_false_iff_not]; omega
section
variable {α : Type} {cf : α → α → Int}
theorem IsCmp.swo (h : IsCmp cf) : SWO (ltOf cf) :=
  ⟨fun x => ltOf_not.2 (by rw [h.refl]; omega), fun x y z h1 h2 => ltOf_iff.2 (h.trans x y z (ltOf_iff.1 h1) (ltOf_iff.1 h2)), fun x y z h1 h2 => by
    rw [ltOf_not] at *
    have e1 := h.neg y x; have e2 := h.neg z y; have e3 := h.neg z x
    by_cases a : cf x y = 0
    · rw [(h.eq x y).1 a]; exact h2
    · by_cases b : cf y z = 0
      · rw [← (h.eq y z).1 b]; exact h1
      · have := h.trans z y x (by omega) (by omega)
        omega⟩
theorem IsCmp.tot (h : IsCmp cf) : ∀ x y, ltOf cf x y = false → ltOf cf y x = false → x = y := fun x y h1 h2 => by
  rw [ltOf_not] at h1 h2
  have := h.neg x y
  exact (h.eq x y).1 (by omega)
theorem mem_sortK [Inhabited α] {xs : List α} {x : α} : x ∈ sortK cf xs ↔ x ∈ xs := by unfold sortK; exact List.mem_mergeSort
theorem sortK_rises [Inhabited α] (h : IsCmp cf) {xs : List α} (hn : xs.Nodup) : Rises cf (sortK cf xs) := by
  have hp : (sortK cf xs).Pairwise fun a b => (!(ltOf cf) b a) = true := List.pairwise_mergeSort (le := fun x y => !(ltOf cf) y x) (fun a b c h1 h2 => by
    simp only [Bool.not_eq_true'] at *
    exact h.swo.ntrans c b a h2 h1) (fun a b => by
    simp only [Bool.or_eq_true, Bool.not_eq_true']
    rcases Int.lt_or_le (cf b a) 0 with h1 | h1
    · refine .inr (ltOf_not.2 ?_)
      have := h.neg b a; omega
    · exact .inl (ltOf_not.2 h1)) xs
  have hd : (sortK cf xs).Nodup := (List.Perm.nodup_iff (List.mergeSort_perm _ _)).2 hn
  unfold Rises
  refine List.Pairwise.imp (R := fun a b => (!(ltOf cf) b a) = true ∧ a ≠ b) (fun {a b} ⟨h1, h2⟩ => ?_) (hp.and hd)
  simp only [Bool.not_eq_true'] at h1
  rw [ltOf_not] at h1
  have h3 := h.neg a b
  have : cf a b ≠ 0 := fun e => h2 ((h.eq a b).1 e)
  omega
end
end Go.Proofs.YtjgcmpondbocfaaGreatDoor
