/- Of commits: who comes of whom, in plain Lean. No condition. -/
import Derived.Test.YtjgcmpondbocfaaGreatDoorListPure
namespace Go.Proofs.YtjgcmpondbocfaaGreatDoor

def setAll (s : List Bool) (ps : List Int) : List Bool := ps.foldl (fun s p => s.set p.toNat true) s
theorem setAll_length (s : List Bool) (ps : List Int) : (setAll s ps).length = s.length := by
  unfold setAll
  induction ps generalizing s with
  | nil => rfl
  | cons p ps ih => rw [List.foldl_cons, ih, List.length_set]
theorem setAll_snoc (s : List Bool) (ps : List Int) (p : Int) : setAll s (ps ++ [p]) = (setAll s ps).set p.toNat true := by
  unfold setAll; rw [List.foldl_append]; rfl

def ofStep (ls : List Commit) (s : List Bool) (k : Nat) : List Bool :=
  if s.getD k false then setAll s ((ls[k]?.map (·.parents)).getD []) else s
theorem ofStep_length (ls : List Commit) (s : List Bool) (k : Nat) : (ofStep ls s k).length = s.length := by
  unfold ofStep; split
  · exact setAll_length _ _
  · rfl
/-- from commit k - 1 down to 0 -/
def ofLoop (ls : List Commit) : Nat → List Bool → List Bool
  | 0, s => s
  | k + 1, s => ofLoop ls k (ofStep ls s k)
def ofSet (ls : List Commit) (i : Nat) : List Bool := ofLoop ls (i + 1) ((List.replicate 60 false).set i true)
theorem ofLoop_length (ls : List Commit) (k : Nat) (s : List Bool) : (ofLoop ls k s).length = s.length := by
  induction k generalizing s with
  | zero => rfl
  | succ k ih => rw [ofLoop, ih, ofStep_length]
theorem ofSet_length (ls : List Commit) (i : Nat) : (ofSet ls i).length = 60 := by rw [ofSet, ofLoop_length]; simp

/-- Parents are elder ones. -/
def Elder (ls : List Commit) : Prop := ∀ (k : Nat) c, ls[k]? = some c → ∀ p ∈ c.parents, 0 ≤ p ∧ p < (k : Int)

def bls (s : List Bool) : List Value := s.map Value.bool
theorem bls_length (s : List Bool) : (bls s).length = s.length := by simp [bls]
theorem bls_set (s : List Bool) (i : Nat) (b : Bool) : (bls s).set i (.bool b) = bls (s.set i b) := by simp [bls, List.map_set]
theorem bls_get {s : List Bool} {i : Nat} {b : Bool} (h : s[i]? = some b) : (bls s)[i]? = some (.bool b) := by simp [bls, h]

/-- The numbers of which a set says yes, rising. -/
def setList (s : List Bool) : List Int := ((List.range s.length).filter fun i => s.getD i false).map fun (i : Nat) => (i : Int)
def setListTo (s : List Bool) (k : Nat) : List Int := ((List.range k).filter fun i => s.getD i false).map fun (i : Nat) => (i : Int)
theorem setListTo_succ (s : List Bool) (k : Nat) : setListTo s (k + 1) = setListTo s k ++ if s.getD k false then [(k : Int)] else [] := by
  unfold setListTo
  rw [List.range_succ, filter_snoc, List.map_append]
  split <;> rfl
theorem setListTo_length (s : List Bool) (k : Nat) : (setListTo s k).length ≤ k := by
  unfold setListTo
  rw [List.length_map]
  have := List.length_filter_le (fun i => s.getD i false) (List.range k)
  rw [List.length_range] at this
  exact this

theorem setList_eq {s : List Bool} (h : s.length = 60) : setList s = setListTo s 60 := by unfold setList setListTo; rw [h]
theorem mem_setList {s : List Bool} {x : Int} (hx : x ∈ setList s) : ∃ i : Nat, x = (i : Int) ∧ i < s.length ∧ s[i]? = some true := by
  unfold setList at hx
  rw [List.mem_map] at hx
  obtain ⟨i, hi, rfl⟩ := hx
  rw [List.mem_filter, List.mem_range] at hi
  refine ⟨i, rfl, hi.1, ?_⟩
  have := hi.2
  rw [List.getD_eq_getElem?_getD, List.getElem?_eq_getElem hi.1] at this
  rw [List.getElem?_eq_getElem hi.1]
  simpa using this

/-! ### faults -/
def badMsg (c : UInt8) : Bool := decide ((c.toNat : Int) < 32) || decide (126 < (c.toNat : Int))
def msgErr (s : ByteArray) : Option Int := if 24 < (s.size : Int) then some 4 else if s.data.toList.any badMsg then some 2 else none
def badParent (i : Int) (p : Int) : Bool := decide (p < 0) || decide (i ≤ p)
def commitErr (c : Commit) (i : Int) : Option Int :=
  if 2 < (c.parents.length : Int) ∨ msgErr c.msg = some 4 then some 4
  else if c.parents.any (badParent i) then some 1
  else if (c.parents.length : Int) = 2 ∧ c.parents.getD 0 0 = c.parents.getD 1 0 then some 7
  else if (msgErr c.msg).isSome then msgErr c.msg
  else if c.layer < 1 ∨ 300 < c.layer then some 1
  else none
def firstErr : List Commit → Nat → Int × Option Int
  | [], _ => (0, none)
  | c :: r, i => if (commitErr c (i : Int)).isSome then ((i : Int), commitErr c (i : Int)) else firstErr r (i + 1)
def checkErr (ls : List Commit) : Int × Option Int := if 60 < (ls.length : Int) then (0, some 4) else firstErr ls 0
def badNum (n : Nat) (i : Int) : Bool := decide (i < 0) || decide ((n : Int) ≤ i)
def readyErr (ls : List Commit) (nums : List Int) : Option Int :=
  if (checkErr ls).2.isSome then (checkErr ls).2 else if nums.any (badNum ls.length) then some 1 else none

theorem msgErr_long {s : ByteArray} (h : 24 < (s.size : Int)) : msgErr s = some 4 := by rw [msgErr, if_pos h]
theorem msgErr_bad {s : ByteArray} {x : UInt8} {k : Nat} (h : ¬ 24 < (s.size : Int)) (hx : s.data.toList[k]? = some x) (hb : badMsg x = true) : msgErr s = some 2 := by
  rw [msgErr, if_neg h, if_pos (List.any_eq_true.2 ⟨x, List.mem_of_getElem? hx, hb⟩)]
theorem msgErr_ok {s : ByteArray} (h : ¬ 24 < (s.size : Int)) (hb : ∀ x ∈ s.data.toList, badMsg x = false) : msgErr s = none := by
  rw [msgErr, if_neg h, if_neg]
  rw [List.any_eq_true]
  rintro ⟨x, hx, h⟩
  rw [hb x hx] at h; cases h
section
variable {c : Commit} {i : Int}
theorem ce4 (h : 2 < (c.parents.length : Int) ∨ msgErr c.msg = some 4) : commitErr c i = some 4 := by rw [commitErr, if_pos h]
theorem ce1 (h1 : ¬ 2 < (c.parents.length : Int)) (h2 : ¬ msgErr c.msg = some 4) (h : c.parents.any (badParent i) = true) : commitErr c i = some 1 := by rw [commitErr, if_neg (by rintro (h | h) <;> contradiction), if_pos h]
theorem ce7 (h1 : ¬ 2 < (c.parents.length : Int)) (h2 : ¬ msgErr c.msg = some 4) (h3 : c.parents.any (badParent i) = false) (h : (c.parents.length : Int) = 2 ∧ c.parents.getD 0 0 = c.parents.getD 1 0) : commitErr c i = some 7 := by
  rw [commitErr, if_neg (by rintro (h | h) <;> contradiction), if_neg (by rw [h3]; simp), if_pos h]
theorem ceM (h1 : ¬ 2 < (c.parents.length : Int)) (h2 : ¬ msgErr c.msg = some 4) (h3 : c.parents.any (badParent i) = false) (h4 : ¬ ((c.parents.length : Int) = 2 ∧ c.parents.getD 0 0 = c.parents.getD 1 0)) (h : (msgErr c.msg).isSome = true) : commitErr c i = msgErr c.msg := by
  rw [commitErr, if_neg (by rintro (h | h) <;> contradiction), if_neg (by rw [h3]; simp), if_neg h4, if_pos h]
theorem ceL (h1 : ¬ 2 < (c.parents.length : Int)) (h2 : ¬ msgErr c.msg = some 4) (h3 : c.parents.any (badParent i) = false) (h4 : ¬ ((c.parents.length : Int) = 2 ∧ c.parents.getD 0 0 = c.parents.getD 1 0)) (h5 : (msgErr c.msg).isSome = false) (h : c.layer < 1 ∨ 300 < c.layer) : commitErr c i = some 1 := by
  rw [commitErr, if_neg (by rintro (h | h) <;> contradiction), if_neg (by rw [h3]; simp), if_neg h4, if_neg (by rw [h5]; simp), if_pos h]
theorem ceN (h1 : ¬ 2 < (c.parents.length : Int)) (h2 : ¬ msgErr c.msg = some 4) (h3 : c.parents.any (badParent i) = false) (h4 : ¬ ((c.parents.length : Int) = 2 ∧ c.parents.getD 0 0 = c.parents.getD 1 0)) (h5 : (msgErr c.msg).isSome = false) (h : ¬ c.layer < 1) (h' : ¬ 300 < c.layer) : commitErr c i = none := by
  rw [commitErr, if_neg (by rintro (h | h) <;> contradiction), if_neg (by rw [h3]; simp), if_neg h4, if_neg (by rw [h5]; simp), if_neg (by rintro (h | h) <;> contradiction)]
end
/-- The faults of the commits from i on. -/
theorem firstErr_drop {ls : List Commit} {k : Nat} {c : Commit} (h : ls[k]? = some c) (hc : (commitErr c (k : Int)).isSome = false) : firstErr (ls.drop k) k = firstErr (ls.drop (k + 1)) (k + 1) := by
  obtain ⟨hk, rfl⟩ := List.getElem?_eq_some_iff.1 h
  rw [List.drop_eq_getElem_cons hk, firstErr, if_neg (by rw [hc]; simp)]
theorem firstErr_at {ls : List Commit} {k : Nat} {c : Commit} (h : ls[k]? = some c) (hc : (commitErr c (k : Int)).isSome = true) : firstErr (ls.drop k) k = ((k : Int), commitErr c (k : Int)) := by
  obtain ⟨hk, rfl⟩ := List.getElem?_eq_some_iff.1 h
  rw [List.drop_eq_getElem_cons hk, firstErr, if_pos hc]

/-! ### a set that is written place by place -/
def Mid (f : Nat → Bool) (old : List Bool) (k : Nat) (s : List Bool) : Prop := s.length = 60 ∧ (∀ i, i < k → s[i]? = some (f i)) ∧ ∀ i, k ≤ i → s[i]? = old[i]?
theorem Mid.start (f : Nat → Bool) {old : List Bool} (h : old.length = 60) : Mid f old 0 old := ⟨h, fun i hi => by omega, fun _ _ => rfl⟩
theorem Mid.step {f : Nat → Bool} {old s : List Bool} {k : Nat} (h : Mid f old k s) (hk : k < 60) : Mid f old (k + 1) (s.set k (f k)) := by
  obtain ⟨h1, h2, h3⟩ := h
  refine ⟨by rw [List.length_set]; exact h1, fun i hi => ?_, fun i hi => ?_⟩
  · by_cases e : i = k
    · subst e; rw [List.getElem?_set_self (by omega)]
    · rw [List.getElem?_set_ne (by omega)]; exact h2 i (by omega)
  · rw [List.getElem?_set_ne (by omega)]; exact h3 i (by omega)
theorem Mid.all {f : Nat → Bool} {old s : List Bool} (h : Mid f old 60 s) : s = (List.range 60).map f := by
  obtain ⟨h1, h2, _⟩ := h
  apply List.ext_getElem?
  intro i
  rcases Nat.lt_or_ge i 60 with hi | hi
  · rw [h2 i hi]; simp [hi]
  · rw [List.getElem?_eq_none (by omega), List.getElem?_eq_none (by simp; omega)]

/-! ### bases -/
def bothOf (x y : List Bool) : List Bool := (List.range 60).map fun i => x.getD i false && y.getD i false
/-- what comes beneath, of the bases from some on -/
def belowStep (ls : List Commit) (s : List Bool) (i : Nat) : List Bool := (List.range 60).map fun k => s.getD k false || ((ofSet ls i).getD k false && decide ((k : Int) ≠ (i : Int)))
def belowOf (ls : List Commit) (bs : List Int) : List Bool := bs.foldl (fun s i => belowStep ls s i.toNat) (List.replicate 60 false)
def baseOf (ls : List Commit) (a b : Nat) : List Int :=
  (setList (bothOf (ofSet ls a) (ofSet ls b))).filter fun i => !(belowOf ls (setList (bothOf (ofSet ls a) (ofSet ls b)))).getD i.toNat false
end Go.Proofs.YtjgcmpondbocfaaGreatDoor
