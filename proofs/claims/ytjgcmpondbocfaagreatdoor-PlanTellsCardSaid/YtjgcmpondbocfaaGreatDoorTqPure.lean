/- The reference on orders and bound names, in plain Lean; rows of terms in a slice of slices. No condition. -/
import Derived.Test.YtjgcmpondbocfaaGreatDoorSwapPure
import Derived.Test.YtjgcmpondbocfaaGreatDoorMergePure
import Derived.Test.YtjgcmpondbocfaaGreatDoorAnsPure
namespace Go.Proofs.YtjgcmpondbocfaaGreatDoor

theorem cmpP_lt {set : List Triple} {parts : List Pat} {kl : List ByteArray} {i k : Int} : cmpP set parts kl i k < 0 ↔ (termsN kl (partAt parts k) : Int) < (termsN kl (partAt parts i) : Int) ∨ ((termsN kl (partAt parts i) : Int) = (termsN kl (partAt parts k) : Int) ∧ ((ofL set (partAt parts i)).length : Int) < ((ofL set (partAt parts k)).length : Int)) := by
  unfold cmpP orI cmpI
  repeat' split
  all_goals omega
/-- The term that stands under a name. -/
def boundA (vs : List ByteArray) (r : List Term) (name : ByteArray) : Option Term := if name = ⟨#[]⟩ then none else getM (vs.zip r) name
theorem getM_zip {vs : List ByteArray} {r : List Term} {name : ByteArray} {k : Nat} {t : Term} (hv : vs[k]? = some name) (hr : r[k]? = some t) (hall : ∀ j y, j < k → vs[j]? = some y → y ≠ name) : getM (vs.zip r) name = some t := by
  induction vs generalizing r k with
  | nil => simp at hv
  | cons y vs ih =>
    cases r with
    | nil => simp at hr
    | cons u r =>
      rw [List.zip_cons_cons]
      unfold getM
      rw [List.find?_cons]
      cases k with
      | zero =>
        have e1 : y = name := by simpa using hv
        have e2 : u = t := by simpa using hr
        subst e1 e2
        simp
      | succ k =>
        have hne : y ≠ name := hall 0 y (by omega) rfl
        simp only [hne, decide_false]
        exact ih (k := k) (by simpa using hv) (by simpa using hr) (fun j y' hj hy => hall (j + 1) y' (by omega) (by simpa using hy))
theorem getM_zip_none {vs : List ByteArray} {r : List Term} {name : ByteArray} (hall : ∀ j y, j < min vs.length r.length → vs[j]? = some y → y ≠ name) : getM (vs.zip r) name = none := by
  rw [getM_none]
  intro p hp e
  obtain ⟨i, hi⟩ := List.mem_iff_getElem?.1 hp
  rw [List.getElem?_zip_eq_some] at hi
  exact hall i p.1 (by have := lt_of_get hi.1; have := lt_of_get hi.2; omega) hi.1 e
theorem boundA_some {vs : List ByteArray} {r : List Term} {name : ByteArray} {k : Nat} {t : Term} (hv : vs[k]? = some name) (hr : r[k]? = some t) (hn : name ≠ ⟨#[]⟩) (hall : ∀ j y, j < k → vs[j]? = some y → ¬ (y = name ∧ name ≠ ⟨#[]⟩)) : boundA vs r name = some t := by
  rw [boundA, if_neg hn]
  exact getM_zip hv hr fun j y hj hy e => hall j y hj hy ⟨e, hn⟩
theorem boundA_none {vs : List ByteArray} {r : List Term} {name : ByteArray} (hall : ∀ j y, j < min vs.length r.length → vs[j]? = some y → ¬ (y = name ∧ name ≠ ⟨#[]⟩)) : boundA vs r name = none := by
  unfold boundA
  split
  · rfl
  · rename_i hn; exact getM_zip_none fun j y hj hy e => hall j y hj hy ⟨e, hn⟩
theorem slotA_bound {vs : List ByteArray} {r : List Term} {s : Slot} (h : (boundA vs r s.var).isSome = true) : slotA (vs.zip r) s = ⟨⟨#[]⟩, (boundA vs r s.var).getD noTerm⟩ := by
  unfold boundA at h ⊢
  split at h
  · cases h
  · rename_i hn
    rw [if_neg hn]
    unfold slotA
    rw [if_pos ⟨h, hn⟩]
theorem slotA_free {vs : List ByteArray} {r : List Term} {s : Slot} (h : (boundA vs r s.var).isSome = false) : slotA (vs.zip r) s = s := by
  unfold boundA at h
  unfold slotA
  split at h
  · rename_i hn; rw [if_neg (fun e => e.2 hn)]
  · rename_i hn; rw [if_neg (fun e => by rw [e.1] at h; cases h)]
/-! ### which are left -/
structure LeftO (n : Nat) (left out : List Int) : Prop where
  asc : left.Pairwise (· < ·)
  lb : ∀ x ∈ left, 0 ≤ x ∧ x < (n : Int)
  mem : ∀ k : Nat, k < n → ((k : Int) ∈ left ↔ ¬ (k : Int) ∈ out)
  len : out.length + left.length = n
theorem LeftO.start (n : Nat) : LeftO n (rangeI n) [] := ⟨rangeI_asc n, fun _ h => mem_rangeI.1 h, fun k hk => by simp [mem_rangeI]; omega, by simp [rangeI_len]⟩
theorem LeftO.nodup {n : Nat} {left out : List Int} (h : LeftO n left out) : left.Nodup := h.asc.imp fun h e => by omega
theorem LeftO.step {n : Nat} {left out : List Int} (h : LeftO n left out) {b : Int} (hb : b ∈ left) : LeftO n (left.filter fun x => !decide (x = b)) (out ++ [b]) := by
  refine ⟨h.asc.sublist List.filter_sublist, fun x hx => h.lb x (List.mem_filter.1 hx).1, fun k hk => ?_, ?_⟩
  · rw [List.mem_filter, List.mem_append, List.mem_singleton, h.mem k hk]
    simp
  · have := filter_ne_len h.nodup hb
    have := h.len
    simp only [List.length_append, List.length_singleton]; omega
theorem any_mem {l : List Int} {k : Int} : (l.any fun x => decide (x = k)) = true ↔ k ∈ l := by
  rw [List.any_eq_true]
  exact ⟨fun ⟨x, hx, h⟩ => (of_decide_eq_true h) ▸ hx, fun h => ⟨k, h, decide_eq_true rfl⟩⟩
/-! ### rows of terms in a slice of slices -/
/-- Two rows of the call's own whose elements are unlike lie apart. -/
theorem Own.apart {α β : Type} {e1 : α → List Value} {e2 : β → List Value} {s1 s2 B1 B2 : Nat} {T1 T2 : TypeId} {w : World} {v u : Value} {xs : List α} {ys : List β} (h1 : Own e1 s1 B1 T1 w v xs) (h2 : Own e2 s2 B2 T2 w u ys) (hT : T1 ≠ T2) {k : Nat} (hv : v.ownBlock = some k) : u.ownBlock ≠ some k := fun hu => by
  rcases h1.2 with ⟨rfl, _⟩ | ⟨g, cap, cur, rfl, _, hg, _⟩
  · cases hv
  rcases h2.2 with ⟨rfl, _⟩ | ⟨g2, cap2, cur2, rfl, _, hg2, _⟩
  · cases hu
  injection hv with hv; injection hu with hu
  subst hv; subst hu
  rw [hg] at hg2
  injection hg2 with hg2
  injection hg2 with _ hg2
  exact hT hg2
/-- Slices of terms, each a row of the call's own. -/
structure RowsO (B : Nat) (T : TypeId) (w : World) (hs : List Hd) (rows : List (List Term)) : Prop where
  len : hs.length = rows.length
  at' : ∀ (i : Nat) (h : Hd) (r : List Term), hs[i]? = some h → rows[i]? = some r → Own encTerm 3 B T w h.val r
section
variable {B : Nat} {T : TypeId} {w w' : World} {hs : List Hd} {rows : List (List Term)}
theorem RowsO.nil (B : Nat) (T : TypeId) (w : World) : RowsO B T w [] [] := ⟨rfl, fun i h r hi => by simp at hi⟩
theorem RowsO.one (B : Nat) (T : TypeId) (w : World) : RowsO B T w [⟨none, 0, 0⟩] [[]] := ⟨rfl, fun i h r hi hr => by
  cases i with
  | zero => simp at hi hr; subst hi hr; exact Own.nil _ _ _ _ _
  | succ i => simp at hi⟩
theorem RowsO.chg {S : Nat → Prop} (c : Chg S w w') (h : RowsO B T w hs rows) (hS : ∀ (i : Nat) (x : Hd) (r : List Term), hs[i]? = some x → rows[i]? = some r → Own encTerm 3 B T w x.val r → ∀ k, x.val.ownBlock = some k → ¬ S k) : RowsO B T w' hs rows :=
  ⟨h.len, fun i x r hx hr => (h.at' i x r hx hr).chg c (hS i x r hx hr (h.at' i x r hx hr))⟩
theorem RowsO.ext (h : RowsO B T w hs rows) (c : Ext w w') : RowsO B T w' hs rows := RowsO.chg c h fun _ _ _ _ _ _ _ _ x => x
/-- A change of a row whose elements are unlike leaves them. -/
theorem RowsO.off {β : Type} {e2 : β → List Value} {s2 B2 : Nat} {T2 : TypeId} {u : Value} {ys : List β} {S : Nat → Prop} (h : RowsO B T w hs rows) (c : Chg S w w') (ho : Own e2 s2 B2 T2 w u ys) (hS : ∀ k, S k → u.ownBlock = some k) (hT : T ≠ T2) : RowsO B T w' hs rows :=
  RowsO.chg c h fun _ _ _ _ _ o k hk hs => Own.apart o ho hT hk (hS k hs)
/-- All blocks below a bound. -/
theorem RowsO.below (h : RowsO B T w hs rows) {i : Nat} {x : Hd} {r : List Term} (hx : hs[i]? = some x) (hr : rows[i]? = some r) {k : Nat} (hk : x.val.ownBlock = some k) : B ≤ k ∧ k < w.heap.size := (h.at' i x r hx hr).base hk
theorem RowsO.get {w0 : World} {A : Option Addr} {n c : Nat} (ho : RSl (REnc encHd) 1 w0 (.slice A n c) hs) (h : RowsO B T w hs rows) {k : Nat} {r : List Term} (hr : rows[k]? = some r) : ∃ x, hs[k]? = some x ∧ Own encTerm 3 B T w x.val r := by
  obtain ⟨x, hx⟩ := get_of_lt (xs := hs) (k := k) (by rw [h.len]; exact lt_of_get hr)
  exact ⟨x, hx, h.at' k x r hx hr⟩
theorem RowsO.snoc (h : RowsO B T w hs rows) {x : Hd} {r : List Term} (ho : Own encTerm 3 B T w x.val r) : RowsO B T w (hs ++ [x]) (rows ++ [r]) := by
  refine ⟨by simp [h.len], fun i y s hy hs' => ?_⟩
  rcases Nat.lt_or_ge i hs.length with hi | hi
  · rw [List.getElem?_append_left hi] at hy
    rw [List.getElem?_append_left (by rw [← h.len]; exact hi)] at hs'
    exact h.at' i y s hy hs'
  · rw [List.getElem?_append_right hi] at hy
    rw [List.getElem?_append_right (by rw [← h.len]; exact hi), ← h.len] at hs'
    cases hj : i - hs.length with
    | zero => rw [hj] at hy hs'; simp at hy hs'; subst hy hs'; exact ho
    | succ j => rw [hj] at hy; simp at hy
end
end Go.Proofs.YtjgcmpondbocfaaGreatDoor
