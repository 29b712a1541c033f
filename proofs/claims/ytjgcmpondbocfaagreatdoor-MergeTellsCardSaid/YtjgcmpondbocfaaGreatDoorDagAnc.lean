/- Who is above whom: what the set of a commit holds, in plain Lean. No condition. -/
import Derived.Test.YtjgcmpondbocfaaGreatDoorDagPure
namespace Go.Proofs.YtjgcmpondbocfaaGreatDoor

/-- j is i, or comes above one of its parents. -/
inductive Anc (ls : List Commit) : Nat → Nat → Prop
  | refl (i : Nat) : Anc ls i i
  | step {j p i : Nat} {c : Commit} : ls[i]? = some c → (p : Int) ∈ c.parents → Anc ls j p → Anc ls j i

theorem Anc.le {ls : List Commit} (he : Elder ls) {j i : Nat} (h : Anc ls j i) : j ≤ i := by
  induction h with
  | refl => exact Nat.le_refl _
  | step hc hp _ ih => have := he _ _ hc _ hp; omega
theorem Anc.trans {ls : List Commit} {k j i : Nat} (h : Anc ls k j) (h' : Anc ls j i) : Anc ls k i := by
  induction h' with
  | refl => exact h
  | step hc hp _ ih => exact .step hc hp ih

def Bit (s : List Bool) (i : Nat) : Prop := s[i]? = some true
theorem setAll_bit {ps : List Int} : ∀ {s : List Bool} {j : Nat}, (∀ p ∈ ps, 0 ≤ p ∧ p < (s.length : Int)) → (Bit (setAll s ps) j ↔ Bit s j ∨ (j : Int) ∈ ps) := by
  induction ps with
  | nil => intro s j _; simp [setAll]
  | cons p ps ih =>
    intro s j hp
    have h0 := hp p List.mem_cons_self
    have e : setAll s (p :: ps) = setAll (s.set p.toNat true) ps := rfl
    rw [e, ih (fun q hq => by rw [List.length_set]; exact hp q (List.mem_cons_of_mem _ hq))]
    unfold Bit
    by_cases hj : j = p.toNat
    · subst hj
      rw [List.getElem?_set_self (by omega)]
      have : ((p.toNat : Nat) : Int) = p := by omega
      simp [this]
    · rw [List.getElem?_set_ne (by omega)]
      have : ¬ (j : Int) = p := by omega
      simp [this]

theorem ofLoop_bit {ls : List Commit} (he : Elder ls) (h60 : ls.length ≤ 60) : ∀ {m : Nat} {s : List Bool} {j : Nat}, s.length = 60 → m ≤ ls.length → (Bit (ofLoop ls m s) j ↔ Bit s j ∨ ∃ t, t < m ∧ Bit s t ∧ Anc ls j t)
  | 0, s, j, _, _ => by simp [ofLoop]
  | m + 1, s, j, hs, hm => by
    obtain ⟨c, hc⟩ := get_of_lt (xs := ls) (k := m) (by omega)
    have hp : ∀ p ∈ c.parents, 0 ≤ p ∧ p < (s.length : Int) := fun p hp => by have := he m c hc p hp; omega
    rw [ofLoop, ofLoop_bit he h60 (by rw [ofStep_length]; exact hs) (by omega)]
    obtain ⟨b, hb⟩ := get_of_lt (xs := s) (k := m) (by omega)
    unfold ofStep
    rw [List.getD_eq_getElem?_getD, hb, Option.getD_some, hc]
    simp only [Option.map_some, Option.getD_some]
    cases b with
    | false =>
      simp only [Bool.false_eq_true, if_false]
      constructor
      · rintro (h | ⟨t, h1, h2, h3⟩)
        · exact .inl h
        · exact .inr ⟨t, by omega, h2, h3⟩
      · rintro (h | ⟨t, h1, h2, h3⟩)
        · exact .inl h
        · refine .inr ⟨t, ?_, h2, h3⟩
          rcases Nat.lt_or_ge t m with h | h
          · exact h
          · obtain rfl : t = m := by omega
            unfold Bit at h2; rw [hb] at h2; cases h2
    | true =>
      simp only [if_true]
      have hbm : Bit s m := hb
      constructor
      · rintro (h | ⟨t, h1, h2, h3⟩)
        · rw [setAll_bit hp] at h
          rcases h with h | h
          · exact .inl h
          · exact .inr ⟨m, by omega, hbm, .step hc h (.refl j)⟩
        · rw [setAll_bit hp] at h2
          rcases h2 with h2 | h2
          · exact .inr ⟨t, by omega, h2, h3⟩
          · exact .inr ⟨m, by omega, hbm, .step hc h2 h3⟩
      · rintro (h | ⟨t, h1, h2, h3⟩)
        · exact .inl ((setAll_bit hp).2 (.inl h))
        · rcases Nat.lt_or_ge t m with h | h
          · exact .inr ⟨t, h, (setAll_bit hp).2 (.inl h2), h3⟩
          · obtain rfl : t = m := by omega
            cases h3 with
            | refl => exact .inl ((setAll_bit hp).2 (.inl h2))
            | step hc' hp' h' =>
              rw [hc] at hc'
              injection hc' with hc'; subst hc'
              have := he _ _ hc _ hp'
              exact .inr ⟨_, by omega, (setAll_bit hp).2 (.inr hp'), h'⟩

theorem ofSet_bit {ls : List Commit} (he : Elder ls) (h60 : ls.length ≤ 60) {i : Nat} (hi : i < ls.length) (j : Nat) : Bit (ofSet ls i) j ↔ Anc ls j i := by
  unfold ofSet
  rw [ofLoop_bit he h60 (by simp) (by omega)]
  have hb : ∀ t, Bit ((List.replicate 60 false).set i true) t ↔ t = i := by
    intro t
    unfold Bit
    by_cases e : i = t
    · subst e; rw [List.getElem?_set_self (by simp; omega)]; simp
    · rw [List.getElem?_set_ne e, List.getElem?_replicate]
      constructor
      · intro h; split at h <;> simp at h
      · intro h; exact absurd h.symm e
  constructor
  · rintro (h | ⟨t, h1, h2, h3⟩)
    · rw [hb] at h; subst h; exact .refl _
    · rw [hb] at h2; subst h2; exact h3
  · intro h
    exact .inr ⟨i, by omega, (hb i).2 rfl, h⟩

theorem getD_bit {s : List Bool} {i : Nat} : s.getD i false = true ↔ Bit s i := by
  unfold Bit
  rw [List.getD_eq_getElem?_getD]
  cases h : s[i]? with
  | none => simp
  | some b => simp
theorem setList_mem {s : List Bool} {x : Int} : x ∈ setList s ↔ ∃ i : Nat, x = (i : Int) ∧ Bit s i := by
  constructor
  · intro h
    obtain ⟨i, h1, _, h2⟩ := mem_setList h
    exact ⟨i, h1, h2⟩
  · rintro ⟨i, rfl, hb⟩
    unfold setList
    rw [List.mem_map]
    refine ⟨i, ?_, rfl⟩
    rw [List.mem_filter, List.mem_range]
    exact ⟨(List.getElem?_eq_some_iff.1 hb).1, getD_bit.2 hb⟩
theorem range_bit {f : Nat → Bool} {i : Nat} : Bit ((List.range 60).map f) i ↔ i < 60 ∧ f i = true := by
  unfold Bit
  rw [List.getElem?_map]
  rcases Nat.lt_or_ge i 60 with h | h
  · rw [List.getElem?_range h]; simp [h]
  · rw [List.getElem?_eq_none (by simpa using h)]; simp; omega
theorem both_bit {x y : List Bool} (hx : x.length = 60) {i : Nat} : Bit (bothOf x y) i ↔ Bit x i ∧ Bit y i := by
  unfold bothOf
  rw [range_bit, Bool.and_eq_true, getD_bit, getD_bit]
  constructor
  · rintro ⟨_, h⟩; exact h
  · intro h
    have := (List.getElem?_eq_some_iff.1 h.1).1
    exact ⟨by omega, h⟩
/-! ### what 'Base' steps through -/
def zeros60 : List Bool := List.replicate 60 false
def fBoth (x y : List Bool) (k : Nat) : Bool := x.getD k false && y.getD k false
def fBelow (ls : List Commit) (s : List Bool) (i k : Nat) : Bool := s.getD k false || ((ofSet ls i).getD k false && decide ((k : Int) ≠ (i : Int)))
theorem belowOf_snoc (ls : List Commit) (bs : List Int) (x : Int) : belowOf ls (bs ++ [x]) = belowStep ls (belowOf ls bs) x.toNat := by
  unfold belowOf; rw [List.foldl_append]; rfl
theorem belowOf_length (ls : List Commit) (bs : List Int) : (belowOf ls bs).length = 60 := by
  unfold belowOf
  have : ∀ (bs : List Int) (s : List Bool), s.length = 60 → (bs.foldl (fun s i => belowStep ls s i.toNat) s).length = 60 := by
    intro bs
    induction bs with
    | nil => intro s h; exact h
    | cons b bs ih => intro s _; rw [List.foldl_cons]; exact ih _ (by simp [belowStep])
  exact this bs _ (by simp)
theorem setList_length {s : List Bool} (h : s.length = 60) : (setList s).length ≤ 60 := by rw [setList_eq h]; exact setListTo_length s 60
theorem both_lt {ls : List Commit} (he : Elder ls) (h60 : ls.length ≤ 60) {a : Nat} (ha : a < ls.length) {y : List Bool} {x : Int} (hx : x ∈ setList (bothOf (ofSet ls a) y)) : ∃ i : Nat, x = (i : Int) ∧ i < ls.length := by
  obtain ⟨i, rfl, hb⟩ := setList_mem.1 hx
  have h1 := ((both_bit (ofSet_length ls a)).1 hb).1
  have := Anc.le he ((ofSet_bit he h60 ha i).1 h1)
  exact ⟨i, rfl, by omega⟩
/-! ### what no fault says -/
theorem firstErr_none : ∀ {ls : List Commit} {i : Nat}, (firstErr ls i).2 = none → ∀ (k : Nat) c, ls[k]? = some c → (commitErr c ((i + k : Nat) : Int)) = none
  | [], i, _, k, c, h => by simp at h
  | x :: r, i, h, k, c, hk => by
    unfold firstErr at h
    split at h
    · rename_i hs
      dsimp only at h
      rw [h] at hs; simp at hs
    · rename_i hs
      cases k with
      | zero =>
        have : x = c := by simpa using hk
        subst this
        rw [Nat.add_zero]
        cases hc : commitErr x (i : Int) with
        | none => rfl
        | some e => rw [hc] at hs; simp at hs
      | succ k =>
        have := firstErr_none h k c (by simpa using hk)
        rwa [show i + 1 + k = i + (k + 1) by omega] at this
theorem commitErr_none {c : Commit} {i : Int} (h : commitErr c i = none) : ∀ p ∈ c.parents, 0 ≤ p ∧ p < i := by
  intro p hp
  have hany : c.parents.any (badParent i) = false := by
    unfold commitErr at h
    split at h
    · cases h
    · split at h
      · cases h
      · rename_i hx; simpa using hx
  have := List.any_eq_false.1 hany p hp
  unfold badParent at this
  simp at this
  omega
theorem ready_ok {ls : List Commit} {nums : List Int} (h : (readyErr ls nums).isSome = false) : ls.length ≤ 60 ∧ Elder ls ∧ ∀ x ∈ nums, 0 ≤ x ∧ x < (ls.length : Int) := by
  unfold readyErr at h
  split at h
  · rename_i hs; rw [h] at hs; cases hs
  · rename_i hs
    have h1 : ∀ x ∈ nums, 0 ≤ x ∧ x < (ls.length : Int) := by
      split at h
      · simp at h
      · rename_i hx
        have hf : nums.any (badNum ls.length) = false := by simpa using hx
        intro x hm
        have := List.any_eq_false.1 hf x hm
        unfold badNum at this
        simp at this
        omega
    have h2 : ls.length ≤ 60 ∧ (firstErr ls 0).2 = none := by
      unfold checkErr at hs
      split at hs
      · simp at hs
      · refine ⟨by omega, ?_⟩
        cases hc : (firstErr ls 0).2 with
        | none => rfl
        | some e => rw [hc] at hs; simp at hs
    refine ⟨h2.1, fun k c hc => ?_, h1⟩
    have := firstErr_none h2.2 k c hc
    rw [Nat.zero_add] at this
    exact commitErr_none this

def ancList (ls : List Commit) (a : Int) : List Int := if (readyErr ls [a]).isSome then [] else setList (ofSet ls a.toNat)
def baseList (ls : List Commit) (a b : Int) : List Int := if (readyErr ls [a, b]).isSome then [] else baseOf ls a.toNat b.toNat
def isB (ls : List Commit) (a b : Int) : Bool := if (readyErr ls [a, b]).isSome then false else (ofSet ls b.toNat).getD a.toNat false
theorem bothOf_length (x y : List Bool) : (bothOf x y).length = 60 := by simp [bothOf]
end Go.Proofs.YtjgcmpondbocfaaGreatDoor
