/- Questions in plain Lean: patterns, what fits, answers so far. No condition. -/
import Derived.Test.YtjgcmpondbocfaaGreatDoorRefPure
namespace Go.Proofs.YtjgcmpondbocfaaGreatDoor

instance memBytes (v : ByteArray) (l : List ByteArray) : Decidable (v ∈ l) := decidable_of_iff (l.any (fun x => decide (x = v)) = true) (by
  rw [List.any_eq_true]
  exact ⟨fun ⟨x, hx, h⟩ => (of_decide_eq_true h) ▸ hx, fun h => ⟨v, h, decide_eq_true rfl⟩⟩)
structure Slot where
  var : ByteArray
  term : Term
deriving DecidableEq
structure Pat where
  s : Slot
  p : Slot
  o : Slot
deriving DecidableEq
instance : Inhabited Slot := ⟨⟨⟨#[]⟩, default⟩⟩
instance : Inhabited Pat := ⟨⟨default, default, default⟩⟩
structure Query where
  vars : List ByteArray
  parts : List Pat
  order : ByteArray
  down : Bool
  distinct : Bool
  limit : Int
def encSlot (s : Slot) : List Value := .string s.var :: encTerm s.term
def encPat (p : Pat) : List Value := encSlot p.s ++ (encSlot p.p ++ encSlot p.o)
theorem encSlot_len (s : Slot) : (encSlot s).length = 4 := rfl
theorem encPat_len (p : Pat) : (encPat p).length = 12 := rfl
theorem one_slot (s : Slot) : ∀ u ∈ encSlot s, u.oneCell' = true := by
  intro u hu; simp only [encSlot, List.mem_cons] at hu
  rcases hu with rfl | h
  · rfl
  · exact one_term _ u h
theorem one_pat (p : Pat) : ∀ u ∈ encPat p, u.oneCell' = true := by
  intro u hu; simp only [encPat, List.mem_append] at hu
  rcases hu with h | h | h <;> exact one_slot _ u h
abbrev RPats : World → Value → List Pat → Prop := RSl (REnc encPat) 12
/-- A question's cells. -/
def RQuery : World → List Value → Query → Prop := fun w cs q => ∃ vv pv, cs = [vv, pv, .string q.order, .bool q.down, .bool q.distinct, .int .i64 q.limit] ∧ RStrs w vv q.vars ∧ RPats w pv q.parts
theorem RQuery.firm : Firm RQuery := fun _ _ _ _ e ⟨vv, pv, h1, h2, h3⟩ => ⟨vv, pv, h1, h2.ext (REnc.firm _) e, h3.ext (REnc.firm _) e⟩
/-- A piece of a row of cells. -/
theorem CellsAt.cut {w : World} {b o : Nat} {cs ds : List Value} (h : CellsAt w b o cs) (k n : Nat) (e : (cs.drop k).take n = ds) : CellsAt w b (o + k) ds := fun i v hv => by
  subst e
  rw [List.getElem?_take] at hv
  split at hv
  · rw [List.getElem?_drop] at hv
    rw [Nat.add_assoc]; exact h (k + i) v hv
  · cases hv

/-! ### what is wrong with a pattern -/
def slotsOf (p : Pat) : List Slot := [p.s, p.p, p.o]
def noTerm : Term := ⟨0, ⟨#[]⟩, ⟨#[]⟩⟩
def slotErr (s : Slot) : Option Int := if s.var = ⟨#[]⟩ then termErr s.term else if lettersB s.var 10 = false then some 2 else if s.term ≠ noTerm then some 3 else none
def addV (out : List ByteArray) (v : ByteArray) : List ByteArray := if v ∈ out then out else out ++ [v]
def addS (out : List ByteArray) (s : Slot) : List ByteArray := if s.var = ⟨#[]⟩ then out else addV out s.var
def patErr (p : Pat) : Option Int := firstE ((slotsOf p).map slotErr)
def patVars (p : Pat) : List ByteArray := (slotsOf p).foldl addS []
def partsErr (l : List Pat) : Option Int := firstE (l.map patErr)
def partsVars (l : List Pat) : List ByteArray := l.foldl (fun out p => (patVars p).foldl addV out) []
theorem slotErr_pos {s : Slot} {e : Int} (h : slotErr s = some e) : 0 < e := by
  unfold slotErr at h
  split at h
  · exact termErr_pos h
  · split at h
    · injection h with h; omega
    · split at h
      · injection h with h; omega
      · cases h
theorem patErr_pos {p : Pat} {e : Int} (h : patErr p = some e) : 0 < e := by
  obtain ⟨y, _, hy⟩ := List.mem_map.1 (firstE_mem h)
  exact slotErr_pos hy
theorem partsErr_pos {l : List Pat} {e : Int} (h : partsErr l = some e) : 0 < e := by
  obtain ⟨y, _, hy⟩ := List.mem_map.1 (firstE_mem h)
  exact patErr_pos hy
theorem addV_nodup {out : List ByteArray} (h : out.Nodup) (v : ByteArray) : (addV out v).Nodup := by
  unfold addV
  split
  · exact h
  · rename_i hn
    rw [List.nodup_append]
    exact ⟨h, by simp, fun a ha b hb => by rw [List.mem_singleton] at hb; subst hb; exact fun e => hn (e ▸ ha)⟩
theorem mem_addV {out : List ByteArray} {v x : ByteArray} : x ∈ addV out v ↔ x ∈ out ∨ x = v := by
  unfold addV
  split
  · rename_i h; exact ⟨.inl, fun hx => hx.elim id (fun e => e ▸ h)⟩
  · simp
theorem mem_addS {out : List ByteArray} {s : Slot} {x : ByteArray} : x ∈ addS out s ↔ x ∈ out ∨ (s.var ≠ ⟨#[]⟩ ∧ x = s.var) := by
  unfold addS
  split
  · rename_i h; simp [h]
  · rename_i h; rw [mem_addV]; simp [h]
theorem addV_len (out : List ByteArray) (v : ByteArray) : (addV out v).length ≤ out.length + 1 := by
  unfold addV; split <;> simp
theorem addVs_len (l out : List ByteArray) : (l.foldl addV out).length ≤ out.length + l.length := by
  induction l generalizing out with
  | nil => simp
  | cons a r ih => have := ih (addV out a); have := addV_len out a; rw [List.foldl_cons, List.length_cons]; omega
theorem addS_len (out : List ByteArray) (s : Slot) : (addS out s).length ≤ out.length + 1 := by
  unfold addS; split
  · omega
  · exact addV_len _ _
theorem patVars_len (p : Pat) : (patVars p).length ≤ 3 := by
  unfold patVars slotsOf
  simp only [List.foldl_cons, List.foldl_nil]
  have h1 := addS_len [] p.s
  have h2 := addS_len (addS [] p.s) p.p
  have h3 := addS_len (addS (addS [] p.s) p.p) p.o
  simp only [List.length_nil] at h1
  omega
theorem mem_patVars {p : Pat} {x : ByteArray} : x ∈ patVars p ↔ x ≠ ⟨#[]⟩ ∧ ∃ s ∈ slotsOf p, s.var = x := by
  unfold patVars slotsOf
  simp only [List.foldl_cons, List.foldl_nil, mem_addS, List.not_mem_nil, false_or, List.mem_cons, or_false, exists_eq_or_imp, exists_eq_left]
  constructor
  · rintro ((⟨h, rfl⟩ | ⟨h, rfl⟩) | ⟨h, rfl⟩)
    · exact ⟨h, .inl rfl⟩
    · exact ⟨h, .inr (.inl rfl)⟩
    · exact ⟨h, .inr (.inr rfl)⟩
  · rintro ⟨h, rfl | rfl | rfl⟩
    · exact .inl (.inl ⟨h, rfl⟩)
    · exact .inl (.inr ⟨h, rfl⟩)
    · exact .inr ⟨h, rfl⟩
theorem partsVars_snoc (l : List Pat) (p : Pat) : partsVars (l ++ [p]) = (patVars p).foldl addV (partsVars l) := by unfold partsVars; rw [List.foldl_append]; rfl
theorem parts_len (l : List Pat) (out : List ByteArray) : (l.foldl (fun out p => (patVars p).foldl addV out) out).length ≤ out.length + 3 * l.length := by
  induction l generalizing out with
  | nil => simp
  | cons p r ih =>
    have h1 := ih ((patVars p).foldl addV out)
    have h2 := addVs_len (patVars p) out
    have h3 := patVars_len p
    rw [List.foldl_cons, List.length_cons]; omega
theorem partsVars_len (l : List Pat) : (partsVars l).length ≤ 3 * l.length := by have := parts_len l []; rw [List.length_nil, Nat.zero_add] at this; exact this
/-- The first elements of a slice. -/
theorem RSl.take {α : Type} {R : World → List Value → α → Prop} {size : Nat} {w : World} {A : Option Addr} {n c : Nat} {xs : List α} (h : RSl R size w (.slice A n c) xs) {k : Nat} (hk : k ≤ xs.length) : RSl R size w (.slice A k c) (xs.take k) := by
  obtain ⟨A', c', hv, h1, h2, h3⟩ := h
  injection hv with e1 e2 e3
  subst e1 e3
  have hl : (xs.take k).length = k := by rw [List.length_take]; omega
  refine ⟨A, c, by rw [hl], by omega, h2, fun h0 => ?_⟩
  obtain ⟨b, o, hA, hc⟩ := h3 (by omega)
  refine ⟨b, o, hA, fun j x hx => hc j x ?_⟩
  rw [List.getElem?_take] at hx
  split at hx
  · exact hx
  · cases hx
/-! ### what is wrong with a question -/
def dupB (l : List ByteArray) : Bool := (List.range l.length).any fun i => match l[i]? with | some v => decide (v ∈ l.take i) | none => false
def queryErr (q : Query) : Option Int :=
  if 6 < (q.parts.length : Int) then some 4
  else if (q.parts.length : Int) = 0 then some 5
  else match partsErr q.parts with
    | some e => some e
    | none => if 8 < ((partsVars q.parts).length : Int) then some 4
      else if (q.vars.length : Int) = 0 ∨ (q.vars.any fun v => !decide (v ∈ partsVars q.parts)) = true then some 5
      else if dupB q.vars then some 7
      else if q.order ≠ ⟨#[]⟩ ∧ ¬ q.order ∈ q.vars then some 5
      else if q.down = true ∧ q.order = ⟨#[]⟩ then some 3
      else if q.limit < -1 ∨ 500 < q.limit then some 1
      else none
theorem queryErr_pos {q : Query} {e : Int} (h : queryErr q = some e) : 0 < e := by
  unfold queryErr at h
  repeat' split at h
  all_goals first | (injection h with h; subst h; exact partsErr_pos (by assumption)) | (injection h with h; omega) | cases h
theorem dupB_false {l : List ByteArray} (h : ∀ i v, l[i]? = some v → ¬ v ∈ l.take i) : dupB l = false := by
  unfold dupB
  rw [List.any_eq_false]
  intro i _
  cases hv : l[i]? with
  | none => simp
  | some v => simpa using h i v hv
theorem dupB_true {l : List ByteArray} {i : Nat} {v : ByteArray} (h : l[i]? = some v) (hm : v ∈ l.take i) : dupB l = true := by
  unfold dupB
  rw [List.any_eq_true]
  exact ⟨i, List.mem_range.2 (lt_of_get h), by rw [h]; simpa using hm⟩

/-! ### what fits -/
def badSlot (ss : List Slot) (xs : List Term) (i : Nat) : Bool := match ss[i]?, xs[i]? with
  | some s, some x => decide (s.var = ⟨#[]⟩) && decide (s.term ≠ x)
  | _, _ => false
def badPair (ss : List Slot) (xs : List Term) (i k : Nat) : Bool := match ss[i]?, xs[i]?, ss[k]?, xs[k]? with
  | some s, some x, some u, some y => decide (s.var ≠ ⟨#[]⟩) && (decide (u.var = s.var) && decide (y ≠ x))
  | _, _, _, _ => false
def fitsB (p : Pat) (t : Triple) : Bool := (List.range 3).all fun i => !badSlot (slotsOf p) (termsOf t) i && (List.range i).all fun k => !badPair (slotsOf p) (termsOf t) i k
def ofL (l : List Triple) (p : Pat) : List Triple := l.filter (fitsB p)
theorem fitsB_true {p : Pat} {t : Triple} (h : ∀ i, i < 3 → badSlot (slotsOf p) (termsOf t) i = false ∧ ∀ k, k < i → badPair (slotsOf p) (termsOf t) i k = false) : fitsB p t = true := by
  unfold fitsB
  rw [List.all_eq_true]
  intro i hi
  have hi := List.mem_range.1 hi
  rw [(h i hi).1, Bool.not_false, Bool.true_and, List.all_eq_true]
  intro k hk
  rw [(h i hi).2 k (List.mem_range.1 hk)]; rfl
theorem fitsB_slot {p : Pat} {t : Triple} {i : Nat} (hi : i < 3) (h : badSlot (slotsOf p) (termsOf t) i = true) : fitsB p t = false := by
  unfold fitsB
  rw [List.all_eq_false]
  exact ⟨i, List.mem_range.2 hi, by rw [h]; simp⟩
theorem fitsB_pair {p : Pat} {t : Triple} {i k : Nat} (hi : i < 3) (hk : k < i) (h : badPair (slotsOf p) (termsOf t) i k = true) : fitsB p t = false := by
  unfold fitsB
  rw [List.all_eq_false]
  refine ⟨i, List.mem_range.2 hi, ?_⟩
  simp only [Bool.and_eq_true, List.all_eq_true, not_and]
  intro _ hall
  have := hall k (List.mem_range.2 hk)
  rw [h] at this; cases this
theorem slots_get {p : Pat} {i : Nat} (h : i < 3) : ∃ s, (slotsOf p)[i]? = some s := get_of_lt h
theorem terms_get {t : Triple} {i : Nat} (h : i < 3) : ∃ x, (termsOf t)[i]? = some x := get_of_lt h
theorem badSlot_at {ss : List Slot} {xs : List Term} {i : Nat} {s : Slot} {x : Term} (h1 : ss[i]? = some s) (h2 : xs[i]? = some x) : badSlot ss xs i = (decide (s.var = ⟨#[]⟩) && decide (s.term ≠ x)) := by unfold badSlot; rw [h1, h2]
theorem badPair_at {ss : List Slot} {xs : List Term} {i k : Nat} {s u : Slot} {x y : Term} (h1 : ss[i]? = some s) (h2 : xs[i]? = some x) (h3 : ss[k]? = some u) (h4 : xs[k]? = some y) : badPair ss xs i k = (decide (s.var ≠ ⟨#[]⟩) && (decide (u.var = s.var) && decide (y ≠ x))) := by unfold badPair; rw [h1, h2, h3, h4]
theorem fits_pair {p : Pat} {t : Triple} (h : fitsB p t = true) {i k : Nat} (hi : i < 3) (hk : k < i) : badPair (slotsOf p) (termsOf t) i k = false := by
  cases hb : badPair (slotsOf p) (termsOf t) i k with
  | false => rfl
  | true => rw [fitsB_pair hi hk hb] at h; cases h

/-! ### answers -/
abbrev Ans := List (ByteArray × Term)
def slotA (a : Ans) (s : Slot) : Slot := if (getM a s.var).isSome = true ∧ s.var ≠ ⟨#[]⟩ then ⟨⟨#[]⟩, (getM a s.var).getD noTerm⟩ else s
def patA (a : Ans) (p : Pat) : Pat := ⟨slotA a p.s, slotA a p.p, slotA a p.o⟩
def putA (a : Ans) (sx : Slot × Term) : Ans := if sx.1.var = ⟨#[]⟩ then a else putM a sx.1.var sx.2
def withA (a : Ans) (p : Pat) (t : Triple) : Ans := ((slotsOf p).zip (termsOf t)).foldl putA a
/-- The answers behind one more part. -/
def stepA (set : List Triple) (a : Ans) (p : Pat) : List Ans := (ofL set (patA a p)).map (withA a (patA a p))
/-- The answers of some parts, from some answers on. -/
def levels (set : List Triple) : List Ans → List Pat → List Ans
  | as, [] => as
  | as, p :: r => levels set (as.flatMap fun a => stepA set a p) r
theorem levels_append (set : List Triple) (as bs : List Ans) (ps : List Pat) : levels set (as ++ bs) ps = levels set as ps ++ levels set bs ps := by
  induction ps generalizing as bs with
  | nil => rfl
  | cons p r ih => rw [levels, List.flatMap_append, ih]; rfl
theorem levels_nil (set : List Triple) (ps : List Pat) : levels set [] ps = [] := by
  induction ps with
  | nil => rfl
  | cons p r ih => rw [levels]; exact ih
theorem levels_snoc (set : List Triple) (as : List Ans) (ps : List Pat) (p : Pat) : levels set as (ps ++ [p]) = (levels set as ps).flatMap fun a => stepA set a p := by
  induction ps generalizing as with
  | nil => rfl
  | cons q r ih => rw [List.cons_append, levels, ih]; rfl
/-- How many there are behind each part. -/
def counts (set : List Triple) : List Ans → List Pat → List Nat
  | as, [] => [as.length]
  | as, p :: r => as.length :: counts set (as.flatMap fun a => stepA set a p) r
theorem counts_len (set : List Triple) (as : List Ans) (ps : List Pat) : (counts set as ps).length = ps.length + 1 := by
  induction ps generalizing as with
  | nil => rfl
  | cons p r ih => rw [counts, List.length_cons, ih, List.length_cons]
theorem counts_append (set : List Triple) (as bs : List Ans) (ps : List Pat) : counts set (as ++ bs) ps = List.zipWith (· + ·) (counts set as ps) (counts set bs ps) := by
  induction ps generalizing as bs with
  | nil => simp [counts]
  | cons p r ih => simp only [counts, List.flatMap_append, ih, List.length_append, List.zipWith_cons_cons]
/-- How many triples are looked at. -/
def lookedN (set : List Triple) (as : List Ans) (ps : List Pat) : Nat := (counts set as ps).tail.sum
theorem step_len (set : List Triple) (a : Ans) (p : Pat) : (stepA set a p).length = (ofL set (patA a p)).length := by simp [stepA]
end Go.Proofs.YtjgcmpondbocfaaGreatDoor
