/- Keys of a map, one behind the other, in whatever order. No condition. -/
import Derived.Test.YtjgcmpondbocfaaGreatDoorRangeF
import Derived.Test.YtjgcmpondbocfaaGreatDoorIter
namespace Go.Proofs.YtjgcmpondbocfaaGreatDoor
open Go.RowKit
section
variable {α β : Type} [DecidableEq α]
theorem perm_take {left : List (α × β)} (hn : KeysM left) {p : α × β} (hp : p ∈ left) : left.Perm (p :: delM left p.1) := by
  induction left with
  | nil => simp at hp
  | cons q l ih =>
    have hn' := hn
    unfold KeysM at hn
    rw [List.map_cons, List.nodup_cons] at hn
    by_cases e : q.1 = p.1
    · have : q = p := keys_eq hn' hp List.mem_cons_self e
      subst this
      have hd : delM (q :: l) q.1 = l := by
        unfold delM
        rw [List.filter_cons]
        simp only [decide_true, Bool.not_true, Bool.false_eq_true, if_false]
        exact delM_none (getM_none.2 fun x hx h => hn.1 (List.mem_map.2 ⟨x, hx, h⟩))
      rw [hd]
    · have hp' : p ∈ l := by
        rcases List.mem_cons.1 hp with h | h
        · exact absurd (by rw [h]) e
        · exact h
      have hd : delM (q :: l) p.1 = q :: delM l p.1 := by
        unfold delM
        rw [List.filter_cons]
        simp [e]
      rw [hd]
      exact (List.Perm.cons q (ih hn.2 hp')).trans (List.Perm.swap p q _)
theorem keys_step {ms left : List (α × β)} {pre : List α} (h : (pre ++ left.map (·.1)).Perm (ms.map (·.1))) (hn : KeysM left) {p : α × β} (hp : p ∈ left) :
    ((pre ++ [p.1]) ++ (delM left p.1).map (·.1)).Perm (ms.map (·.1)) ∧ pre.length < ms.length := by
  have h1 := (perm_take hn hp).map (·.1)
  constructor
  · refine List.Perm.trans ?_ h
    rw [List.append_assoc]
    exact List.Perm.append_left pre h1.symm
  · have h2 := h.length_eq
    have h3 := List.length_pos_of_mem hp
    rw [List.length_append, List.length_map, List.length_map] at h2
    omega
end
/-- What a sort at whole numbers comes to: the same numbers, rising. -/
def sortI (xs : List Int) : List Int := xs.mergeSort (fun x y => decide (x ≤ y))
def SortC (P : Program) (f : FuncId) (te : TypeId) : Prop := ∀ (xs : List Int) (v : Value) (base : Nat) (w0 : World), xs.length ≤ 4611686018427387903 → Own encInt 1 base te w0 v xs →
  Ret P f [v] w0 fun r w' => r = .tuple #[] ∧ Own encInt 1 base te w' v (sortI xs) ∧ Chg (fun k => v.ownBlock = some k) w0 w'
theorem sortI_perm (xs : List Int) : (sortI xs).Perm xs := List.mergeSort_perm _ _
end Go.Proofs.YtjgcmpondbocfaaGreatDoor
