/- Parts taken in another order, in plain Lean. No condition. -/
import Derived.Test.YtjgcmpondbocfaaGreatDoorOrderPure
namespace Go.Proofs.YtjgcmpondbocfaaGreatDoor

def swapB (n : Nat) (o : List Int) : Bool := (List.range o.length).all fun i => match o[i]? with | some x => decide (0 ≤ x ∧ x < (n : Int)) && !decide (x ∈ o.take i) | none => true
def swapErr (q : Query) (o : List Int) : Option Int := if (o.length : Int) ≠ (q.parts.length : Int) then some 3 else if swapB q.parts.length o then none else some 3
def swapQ (q : Query) (o : List Int) : Query := { q with parts := o.map (partAt q.parts) }
def zeroQ : Query := ⟨[], [], ⟨#[]⟩, false, false, 0⟩
theorem swapB_false {n : Nat} {o : List Int} {i : Nat} {x : Int} (h : o[i]? = some x) (hb : ¬ (0 ≤ x ∧ x < (n : Int)) ∨ x ∈ o.take i) : swapB n o = false := by
  unfold swapB
  rw [List.all_eq_false]
  refine ⟨i, List.mem_range.2 (lt_of_get h), ?_⟩
  rw [h]
  rcases hb with hb | hb <;> simp [hb]
theorem swapB_true {n : Nat} {o : List Int} (h : ∀ i x, o[i]? = some x → (0 ≤ x ∧ x < (n : Int)) ∧ ¬ x ∈ o.take i) : swapB n o = true := by
  unfold swapB
  rw [List.all_eq_true]
  intro i _
  cases hx : o[i]? with
  | none => rfl
  | some x => have := h i x hx; simp [this]
def marks (n : Nat) (l : List Int) : List Value := (List.range n).map fun (j : Nat) => .bool (decide ((j : Int) ∈ l))
theorem marks_len (n : Nat) (l : List Int) : (marks n l).length = n := by simp [marks]
theorem marks_nil (n : Nat) : List.replicate n (.bool false) = marks n [] := by
  unfold marks
  apply List.ext_getElem?
  intro i
  by_cases h : i < n <;> simp [List.getElem?_replicate, h, List.getElem?_range]
theorem marks_at {n : Nat} {l : List Int} {j : Nat} (h : j < n) : (marks n l)[j]? = some (.bool (decide ((j : Int) ∈ l))) := by
  unfold marks
  rw [List.getElem?_map, List.getElem?_range h]; rfl
theorem marks_set {n : Nat} {l : List Int} {x : Int} (h0 : 0 ≤ x) : (marks n l).set x.toNat (.bool true) = marks n (l ++ [x]) := by
  apply List.ext_getElem?
  intro i
  by_cases e : x.toNat = i
  · subst e
    by_cases hn : x.toNat < n
    · rw [List.getElem?_set_self (by rw [marks_len]; exact hn), marks_at hn]
      have : ((x.toNat : Nat) : Int) = x := by omega
      simp [this]
    · rw [List.getElem?_eq_none (by rw [List.length_set, marks_len]; omega), List.getElem?_eq_none (by rw [marks_len]; omega)]
  · rw [List.getElem?_set_ne e]
    by_cases hn : i < n
    · rw [marks_at hn, marks_at hn]
      have : (i : Int) ≠ x := by omega
      simp [this]
    · rw [List.getElem?_eq_none (by rw [marks_len]; omega), List.getElem?_eq_none (by rw [marks_len]; omega)]
theorem splice_one {cs : List Value} {o : Nat} {v : Value} (h : o < cs.length) : splice cs o [v] = cs.set o v := by
  rw [splice_eq (by simp; omega), List.set_eq_take_append_cons_drop, if_pos h]
  simp
theorem nodup_snoc {l : List Int} {k : Nat} {x : Int} (hx : l[k]? = some x) {P : Int → Prop} (hall : ∀ i y, i < k → l[i]? = some y → P y ∧ ¬ y ∈ l.take i) (hp : P x) (hn : ¬ x ∈ l.take k) : ∀ i y, i < k + 1 → l[i]? = some y → P y ∧ ¬ y ∈ l.take i := fun i y hi hy => by
  rcases Nat.lt_or_ge i k with h | h
  · exact hall i y h hy
  · obtain rfl : i = k := by omega
    rw [hx] at hy; injection hy with hy; subst hy
    exact ⟨hp, hn⟩
/-! ### two questions alike -/
def sameQ (a b : Query) : Bool := decide (a.vars = b.vars) && (decide (a.parts = b.parts) && (decide (a.order = b.order) && (decide (a.down = b.down) && (decide (a.distinct = b.distinct) && decide (a.limit = b.limit)))))
theorem sameQ_refl (a : Query) : sameQ a a = true := by simp [sameQ]
end Go.Proofs.YtjgcmpondbocfaaGreatDoor
