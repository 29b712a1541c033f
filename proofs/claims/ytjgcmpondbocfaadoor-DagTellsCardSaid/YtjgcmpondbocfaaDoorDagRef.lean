/- The other way to who comes of whom: marks until nothing is new. In plain Lean. No condition. -/
import Derived.Test.YtjgcmpondbocfaaDoorDagLaw
namespace Go.Proofs.YtjgcmpondbocfaaDoor

/-- how many marks are missing -/
def lack (s : List Bool) : Nat := s.countP fun b => !b
theorem lack_set {s : List Bool} {i : Nat} (h : s[i]? = some false) : lack (s.set i true) + 1 = lack s := by
  induction s generalizing i with
  | nil => simp at h
  | cons b s ih =>
    cases i with
    | zero =>
      have : b = false := by simpa using h
      subst this
      simp [lack]
    | succ i =>
      have := ih (i := i) (by simpa using h)
      unfold lack at this ⊢
      rw [List.set_cons_succ, List.countP_cons, List.countP_cons]
      omega
theorem bit_set {s : List Bool} {i j : Nat} (hi : i < s.length) : Bit (s.set i true) j ↔ j = i ∨ Bit s j := by
  unfold Bit
  by_cases h : j = i
  · subst h; simp [hi]
  · rw [List.getElem?_set_ne (fun e => h e.symm)]
    simp [h]

/-- A round of marking: at commit k, its first j parents seen. -/
structure Clim (ls : List Commit) (i : Nat) (n0 : Nat) (s : List Bool) (again : Bool) (k j : Nat) : Prop where
  len : s.length = ls.length
  root : Bit s i
  sound : ∀ m, Bit s m → Anc ls m i
  cnt : lack s + (if again then 1 else 0) ≤ n0
  closed : again = false → (∀ m c, m < k → ls[m]? = some c → Bit s m → ∀ p ∈ c.parents, Bit s p.toNat) ∧ ∀ c, ls[k]? = some c → Bit s k → ∀ p ∈ c.parents.take j, Bit s p.toNat

theorem Clim.start {ls : List Commit} {i : Nat} (hi : i < ls.length) : (((List.replicate ls.length false).set i true).length = ls.length) ∧ Bit ((List.replicate ls.length false).set i true) i ∧ ∀ m, Bit ((List.replicate ls.length false).set i true) m → Anc ls m i := by
  refine ⟨by simp, (bit_set (by simpa using hi)).2 (.inl rfl), fun m hm => ?_⟩
  rcases (bit_set (by simpa using hi)).1 hm with rfl | hm
  · exact .refl _
  · unfold Bit at hm; rw [List.getElem?_replicate] at hm; split at hm <;> simp at hm
theorem Clim.first {ls : List Commit} {i : Nat} {s : List Bool} (h1 : s.length = ls.length) (h2 : Bit s i) (h3 : ∀ m, Bit s m → Anc ls m i) : Clim ls i (lack s) s false 0 0 :=
  ⟨h1, h2, h3, by simp, fun _ => ⟨fun m c hm => by omega, fun c _ _ p hp => by simp at hp⟩⟩
theorem Clim.pass {ls : List Commit} {i n0 k : Nat} {s : List Bool} {again : Bool} (h : Clim ls i n0 s again k 0) (hk : s[k]? = some false) : Clim ls i n0 s again (k + 1) 0 :=
  ⟨h.len, h.root, h.sound, h.cnt, fun ha => ⟨fun m c hm hc hb => by
    rcases Nat.lt_or_ge m k with h1 | h1
    · exact (h.closed ha).1 m c h1 hc hb
    · obtain rfl : m = k := by omega
      unfold Bit at hb; rw [hk] at hb; simp at hb, fun c _ _ p hp => by simp at hp⟩⟩
theorem Clim.old {ls : List Commit} {i n0 k j : Nat} {s : List Bool} {again : Bool} {c : Commit} {p : Int} (h : Clim ls i n0 s again k j) (hc : ls[k]? = some c) (hp : c.parents[j]? = some p) (hb : s[p.toNat]? = some true) : Clim ls i n0 s again k (j + 1) :=
  ⟨h.len, h.root, h.sound, h.cnt, fun ha => ⟨(h.closed ha).1, fun c' hc' hk q hq => by
    rw [hc] at hc'; injection hc' with hc'; subst hc'
    rw [take_snoc hp, List.mem_append, List.mem_singleton] at hq
    rcases hq with hq | rfl
    · exact (h.closed ha).2 c hc hk q hq
    · exact hb⟩⟩
theorem Clim.new {ls : List Commit} {i n0 k j : Nat} {s : List Bool} {again : Bool} {c : Commit} {p : Int} (h : Clim ls i n0 s again k j) (he : Elder ls) (hc : ls[k]? = some c) (hk : s[k]? = some true) (hp : c.parents[j]? = some p) (hb : s[p.toNat]? = some false) : Clim ls i n0 (s.set p.toNat true) true k (j + 1) := by
  have hlt := lt_of_get hb
  refine ⟨by rw [List.length_set]; exact h.len, (bit_set hlt).2 (.inr h.root), fun m hm => ?_, ?_, fun ha => by cases ha⟩
  · rcases (bit_set hlt).1 hm with rfl | hm
    · have h1 := h.sound k hk
      have hp0 := he k c hc p (List.mem_of_getElem? hp)
      have e : ((p.toNat : Nat) : Int) = p := Int.toNat_of_nonneg hp0.1
      exact Anc.trans (.step hc (by rw [e]; exact List.mem_of_getElem? hp) (.refl _)) h1
    · exact h.sound m hm
  · have := lack_set hb
    have := h.cnt
    split at this <;> simp <;> omega
theorem Clim.next {ls : List Commit} {i n0 k j : Nat} {s : List Bool} {again : Bool} {c : Commit} (h : Clim ls i n0 s again k j) (hc : ls[k]? = some c) (hj : j = c.parents.length) : Clim ls i n0 s again (k + 1) 0 := by
  subst hj
  refine ⟨h.len, h.root, h.sound, h.cnt, fun ha => ⟨fun m c' hm hc' hb => ?_, fun c _ _ p hp => by simp at hp⟩⟩
  rcases Nat.lt_or_ge m k with h1 | h1
  · exact (h.closed ha).1 m c' h1 hc' hb
  · obtain rfl : m = k := by omega
    rw [hc] at hc'; injection hc' with hc'; subst hc'
    have := (h.closed ha).2 c hc hb
    rwa [List.take_length] at this
/-- Nothing was new: all are marked. -/
theorem Clim.done {ls : List Commit} {i n0 : Nat} {s : List Bool} (h : Clim ls i n0 s false ls.length 0) (he : Elder ls) : ∀ m, Bit s m ↔ Anc ls m i := by
  refine fun m => ⟨h.sound m, fun hm => ?_⟩
  have key : ∀ a b, Anc ls a b → Bit s b → Bit s a := by
    intro a b hab
    induction hab with
    | refl => exact fun h => h
    | step hc hp _ ih =>
      intro hb
      have := (h.closed rfl).1 _ _ (lt_of_get hc) hc hb _ hp
      exact ih this
  exact key m i hm h.root
theorem marks_list {ls : List Commit} {i : Nat} {s : List Bool} (h : (readyErr ls [(i : Int)]).isSome = false) (hs : s.length = ls.length) (hb : ∀ m, Bit s m ↔ Anc ls m i) : setListTo s ls.length = ancList ls i := by
  refine sorted_ext (setListTo_sorted s _).1 (ancList_sorted ls i) fun z => ?_
  rw [mem_ancList h]
  unfold setListTo
  rw [List.mem_map]
  constructor
  · rintro ⟨k, hk, rfl⟩
    rw [List.mem_filter, getD_bit] at hk
    exact ⟨k, rfl, (hb k).1 hk.2⟩
  · rintro ⟨k, rfl, hk⟩
    refine ⟨k, ?_, rfl⟩
    have hbit := (hb k).2 hk
    rw [List.mem_filter, getD_bit, List.mem_range]
    exact ⟨by have := lt_of_get hbit; omega, hbit⟩

/-! ### bases, the other way -/
def both2 (ls : List Commit) (a b : Int) : List Int := (ancList ls a).filter fun x => (ancList ls b).any fun y => decide (y = x)
def below2 (ls : List Commit) (bs : List Int) (i : Nat) (x : Int) (k : Nat) : Bool := (List.range k).any fun j => decide ((j : Int) ≠ (i : Int)) && ((ancList ls (bs.getD j 0)).any fun y => decide (y = x))
def baseTo (ls : List Commit) (bs : List Int) (i : Nat) : List Int := ((List.range i).filter fun k => !below2 ls bs k (bs.getD k 0) bs.length).map fun k => bs.getD k 0
theorem below2_succ (ls : List Commit) (bs : List Int) (i : Nat) (x : Int) (k : Nat) : below2 ls bs i x (k + 1) = (below2 ls bs i x k || (decide ((k : Int) ≠ (i : Int)) && ((ancList ls (bs.getD k 0)).any fun y => decide (y = x)))) := by
  unfold below2
  rw [List.range_succ, List.any_append]
  simp
theorem baseTo_succ (ls : List Commit) (bs : List Int) (i : Nat) : baseTo ls bs (i + 1) = baseTo ls bs i ++ if below2 ls bs i (bs.getD i 0) bs.length then [] else [bs.getD i 0] := by
  unfold baseTo
  rw [List.range_succ, filter_snoc, List.map_append]
  cases below2 ls bs i (bs.getD i 0) bs.length <;> simp
theorem baseTo_length (ls : List Commit) (bs : List Int) (i : Nat) : (baseTo ls bs i).length ≤ i := by
  unfold baseTo
  rw [List.length_map]
  have := List.length_filter_le (fun k => !below2 ls bs k (bs.getD k 0) bs.length) (List.range i)
  rw [List.length_range] at this
  exact this
theorem both2_mem {ls : List Commit} {a b : Nat} (h : (readyErr ls [(a : Int), (b : Int)]).isSome = false) {x : Int} : x ∈ both2 ls a b ↔ ∃ i : Nat, x = (i : Int) ∧ Anc ls i a ∧ Anc ls i b := by
  obtain ⟨h60, he, hn⟩ := ready_ok h
  have ra : (readyErr ls [(a : Int)]).isSome = false := ready_of h (fun y hy => hn y (by simp at hy ⊢; exact .inl hy))
  have rb : (readyErr ls [(b : Int)]).isSome = false := ready_of h (fun y hy => hn y (by simp at hy ⊢; exact .inr hy))
  unfold both2
  rw [List.mem_filter, any_eq_mem, mem_ancList ra, mem_ancList rb]
  constructor
  · rintro ⟨⟨i, rfl, hi⟩, j, hj, hj'⟩
    have : i = j := by omega
    subst this
    exact ⟨i, rfl, hi, hj'⟩
  · rintro ⟨i, rfl, h1, h2⟩; exact ⟨⟨i, rfl, h1⟩, i, rfl, h2⟩
theorem both2_sorted (ls : List Commit) (a b : Int) : (both2 ls a b).Pairwise (· < ·) := (ancList_sorted ls a).sublist List.filter_sublist
theorem both2_ready {ls : List Commit} {a b : Nat} (h : (readyErr ls [(a : Int), (b : Int)]).isSome = false) {x : Int} (hx : x ∈ both2 ls a b) : (readyErr ls [x]).isSome = false ∧ ∃ i : Nat, x = (i : Int) ∧ i < ls.length := by
  obtain ⟨h60, he, hn⟩ := ready_ok h
  obtain ⟨i, rfl, hi, _⟩ := (both2_mem h).1 hx
  have := Anc.le he hi
  have := hn a (by simp)
  exact ⟨ready_of h (fun y hy => by rw [List.mem_singleton] at hy; subst hy; omega), i, rfl, by omega⟩
theorem both2_length {ls : List Commit} (a b : Int) : (both2 ls a b).length ≤ 60 := Nat.le_trans (List.length_filter_le _ _) (ancList_length ls a)
theorem baseTo_all {ls : List Commit} {a b : Nat} (h : (readyErr ls [(a : Int), (b : Int)]).isSome = false) : baseTo ls (both2 ls a b) (both2 ls a b).length = baseList ls a b := by
  have hsort := both2_sorted ls a b
  have hget : ∀ k, k < (both2 ls a b).length → ∃ x, (both2 ls a b)[k]? = some x ∧ (both2 ls a b).getD k 0 = x := fun k hk => by
    obtain ⟨x, hx⟩ := get_of_lt hk
    exact ⟨x, hx, by rw [List.getD_eq_getElem?_getD, hx]; rfl⟩
  refine sorted_ext ?_ (baseList_sorted h) fun z => ?_
  · unfold baseTo
    rw [List.pairwise_map]
    refine List.Pairwise.imp_of_mem ?_ ((List.pairwise_lt_range).sublist List.filter_sublist)
    intro i j hi hj hij
    rw [List.mem_filter, List.mem_range] at hi hj
    obtain ⟨x, hx, ex⟩ := hget i hi.1
    obtain ⟨y, hy, ey⟩ := hget j hj.1
    rw [ex, ey]
    obtain ⟨h1, e1⟩ := List.getElem?_eq_some_iff.1 hx
    obtain ⟨h2, e2⟩ := List.getElem?_eq_some_iff.1 hy
    have := List.pairwise_iff_getElem.1 hsort i j h1 h2 hij
    omega
  · rw [mem_baseList h]
    unfold baseTo
    rw [List.mem_map]
    have hbel : ∀ k x, (both2 ls a b)[k]? = some x → (below2 ls (both2 ls a b) k x (both2 ls a b).length = false ↔ ∀ j y, j ≠ k → (both2 ls a b)[j]? = some y → x ∉ ancList ls y) := by
      intro k x hx
      unfold below2
      rw [List.any_eq_false]
      constructor
      · intro hh j y hjk hy hm
        have h1 := hh j (List.mem_range.2 (lt_of_get hy))
        rw [List.getD_eq_getElem?_getD, hy] at h1
        have h2 : ((ancList ls y).any fun z => decide (z = x)) = true := any_eq_mem.2 hm
        have h3 : ¬ ((j : Int) = (k : Int)) := by omega
        simp [h2, h3] at h1
      · intro hh j hj
        obtain ⟨y, hy, ey⟩ := hget j (List.mem_range.1 hj)
        rw [ey]
        by_cases hjk : (j : Int) = (k : Int)
        · simp [hjk]
        · have h1 := hh j y (by omega) hy
          have h2 : ((ancList ls y).any fun z => decide (z = x)) = false := by
            cases hc : (ancList ls y).any fun z => decide (z = x) with
            | false => rfl
            | true => exact absurd (any_eq_mem.1 hc) h1
          rw [h2]; simp
    constructor
    · rintro ⟨k, hk, rfl⟩
      rw [List.mem_filter, List.mem_range] at hk
      obtain ⟨x, hx, ex⟩ := hget k hk.1
      rw [ex] at hk ⊢
      obtain ⟨xi, rfl, h1, h2⟩ := (both2_mem h).1 (List.mem_of_getElem? hx)
      refine ⟨xi, rfl, h1, h2, fun j hja hjb hxj => ?_⟩
      apply Decidable.byContradiction
      intro hne
      have hmem : (j : Int) ∈ both2 ls a b := (both2_mem h).2 ⟨j, rfl, hja, hjb⟩
      obtain ⟨m, hm⟩ := List.getElem?_of_mem hmem
      have h3 := (hbel k xi hx).1 (by simpa using hk.2) m j (fun e => by subst e; rw [hx] at hm; injection hm with hm; omega) hm
      exact h3 ((mem_ancList (both2_ready h hmem).1).2 ⟨xi, rfl, hxj⟩)
    · rintro ⟨i, rfl, h1, h2, hmax⟩
      have hmem : (i : Int) ∈ both2 ls a b := (both2_mem h).2 ⟨i, rfl, h1, h2⟩
      obtain ⟨k, hk⟩ := List.getElem?_of_mem hmem
      have hkl := lt_of_get hk
      have ek : (both2 ls a b).getD k 0 = (i : Int) := by rw [List.getD_eq_getElem?_getD, hk]; rfl
      refine ⟨k, ?_, ek⟩
      rw [List.mem_filter, List.mem_range, ek]
      refine ⟨hkl, ?_⟩
      rw [(hbel k i hk).2 fun j y hjk hy hm => ?_]
      · rfl
      · have hy' := List.mem_of_getElem? hy
        obtain ⟨yi, rfl, g1, g2⟩ := (both2_mem h).1 hy'
        obtain ⟨i', e, hi'⟩ := (mem_ancList (both2_ready h hy').1).1 hm
        have : i = i' := by omega
        subst this
        have := hmax yi g1 g2 hi'
        subst this
        obtain ⟨q1, e1⟩ := List.getElem?_eq_some_iff.1 hk
        obtain ⟨q2, e2⟩ := List.getElem?_eq_some_iff.1 hy
        rcases Nat.lt_trichotomy j k with q | q | q
        · have := List.pairwise_iff_getElem.1 hsort j k q2 q1 q; omega
        · exact hjk q
        · have := List.pairwise_iff_getElem.1 hsort k j q1 q2 q; omega

theorem msgErr_zero {s : ByteArray} (h : (msgErr s).getD 0 = 0) : (msgErr s).isSome = false := by
  unfold msgErr at h ⊢
  split
  · rename_i h1; rw [if_pos h1] at h; simp at h
  · rename_i h1
    rw [if_neg h1] at h
    split
    · rename_i h2; rw [if_pos h2] at h; simp at h
    · rfl
/-! ### what is wrong, once more -/
theorem commitErr_pos {c : Commit} {i : Int} : commitErr c i ≠ some 0 := by
  have hm : msgErr c.msg ≠ some 0 := by
    unfold msgErr
    split
    · simp
    · split <;> simp
  unfold commitErr
  split
  · simp
  · split
    · simp
    · split
      · simp
      · split
        · exact hm
        · split <;> simp
theorem firstErr_pos : ∀ {ls : List Commit} {i : Nat}, (firstErr ls i).2 ≠ some 0
  | [], i => by simp [firstErr]
  | c :: r, i => by
    unfold firstErr
    split
    · exact commitErr_pos
    · exact firstErr_pos
theorem checkErr_pos {ls : List Commit} : (checkErr ls).2 ≠ some 0 := by
  unfold checkErr
  split
  · simp
  · exact firstErr_pos
theorem check_zero {ls : List Commit} (h : (checkErr ls).2.getD 0 = 0) : (checkErr ls).2 = none := by
  have := checkErr_pos (ls := ls)
  cases hc : (checkErr ls).2 with
  | none => rfl
  | some e =>
    rw [hc] at h this
    simp at h this
    exact absurd h this
theorem readyErr_pos {ls : List Commit} {xs : List Int} : readyErr ls xs ≠ some 0 := by
  unfold readyErr
  split
  · exact checkErr_pos
  · split <;> simp
theorem ready_zero {ls : List Commit} {xs : List Int} (h : (readyErr ls xs).getD 0 = 0) : (readyErr ls xs).isSome = false := by
  have := readyErr_pos (ls := ls) (xs := xs)
  cases hc : readyErr ls xs with
  | none => rfl
  | some e =>
    rw [hc] at h this
    simp at h this
    exact absurd h this
theorem ready_nz {ls : List Commit} {xs : List Int} (h : ¬ (readyErr ls xs).getD 0 = 0) : (readyErr ls xs).isSome = true := by
  cases hc : readyErr ls xs with
  | none => rw [hc] at h; exact absurd rfl h
  | some e => rfl
theorem ready_check {ls : List Commit} {xs : List Int} (h : ¬ (checkErr ls).2.getD 0 = 0) : readyErr ls xs = (checkErr ls).2 := by
  rw [readyErr, if_pos]
  cases hc : (checkErr ls).2 with
  | none => rw [hc] at h; exact absurd rfl h
  | some e => rfl
theorem badNum_iff {n : Nat} {a : Int} : badNum n a = true ↔ a < 0 ∨ (n : Int) ≤ a := by simp [badNum]
theorem ready_bad {ls : List Commit} {a : Int} (hc : (checkErr ls).2 = none) (h : a < 0 ∨ (ls.length : Int) ≤ a) : readyErr ls [a] = some 1 := by
  rw [readyErr, hc, if_neg (by simp), if_pos (by rw [List.any_cons, badNum_iff.2 h]; rfl)]
theorem ready_good {ls : List Commit} {a : Int} (hc : (checkErr ls).2 = none) (h : ¬ a < 0) (h' : ¬ (ls.length : Int) ≤ a) : readyErr ls [a] = (checkErr ls).2 := by
  have : badNum ls.length a = false := by
    cases hb : badNum ls.length a with
    | false => rfl
    | true => have := badNum_iff.1 hb; omega
  rw [readyErr, hc, if_neg (by simp), if_neg (by simp [this])]
theorem ready_parts {ls : List Commit} {a : Int} (h : (readyErr ls [a]).isSome = false) : (checkErr ls).2 = none ∧ badNum ls.length a = false := by
  unfold readyErr at h
  split at h
  · rename_i hs; rw [h] at hs; cases hs
  · rename_i hs
    split at h
    · cases h
    · rename_i hb
      refine ⟨by cases hc : (checkErr ls).2 <;> simp [hc] at hs ⊢, ?_⟩
      simpa using hb
theorem ready_bad2 {ls : List Commit} {a b : Int} (hr : (readyErr ls [a]).isSome = false) (h : b < 0 ∨ (ls.length : Int) ≤ b) : readyErr ls [a, b] = some 1 := by
  obtain ⟨hc, ha⟩ := ready_parts hr
  rw [readyErr, hc, if_neg (by simp), if_pos (by rw [List.any_cons, List.any_cons, badNum_iff.2 h]; simp)]
theorem ready_good2 {ls : List Commit} {a b : Int} (hr : (readyErr ls [a]).isSome = false) (h : ¬ b < 0) (h' : ¬ (ls.length : Int) ≤ b) : readyErr ls [a, b] = readyErr ls [a] := by
  obtain ⟨hc, ha⟩ := ready_parts hr
  have : badNum ls.length b = false := by
    cases hb : badNum ls.length b with
    | false => rfl
    | true => have := badNum_iff.1 hb; omega
  rw [readyErr, hc, if_neg (by simp), if_neg (by simp [this, ha]), readyErr, hc, if_neg (by simp), if_neg (by simp [ha])]
theorem ready_two {ls : List Commit} {a b : Int} (h : ¬ (readyErr ls [a]).getD 0 = 0) : readyErr ls [a, b] = readyErr ls [a] := by
  unfold readyErr at h ⊢
  split
  · rfl
  · rename_i hs
    rw [if_neg hs] at h
    split at h
    · rename_i hb
      have hb' : badNum ls.length a = true := by simpa using hb
      rw [if_pos (by simp [hb']), if_pos hb]
    · exact absurd rfl h
theorem in_isB {ls : List Commit} {a b : Nat} (h : (readyErr ls [(a : Int), (b : Int)]).isSome = false) (hb : (readyErr ls [(b : Int)]).isSome = false) : ((ancList ls (b : Int)).any fun x => decide (x = (a : Int))) = isB ls a b := by
  rw [Bool.eq_iff_iff, any_eq_mem, isB_iff h, mem_ancList hb]
  constructor
  · rintro ⟨i, hi, h⟩
    have : a = i := by omega
    subst this; exact h
  · exact fun h => ⟨a, rfl, h⟩
/-! ### the reverse, place by place -/
def RevTo (xs : List Int) (i : Nat) (ys : List Int) : Prop := ys.length = xs.length ∧ ∀ k, k < xs.length → ys[k]? = if k < i ∨ xs.length ≤ k + i then xs[xs.length - 1 - k]? else xs[k]?
theorem RevTo.start (xs : List Int) : RevTo xs 0 xs := ⟨rfl, fun k hk => by rw [if_neg (by omega)]⟩
theorem RevTo.step {xs ys : List Int} {i : Nat} {x y : Int} (h : RevTo xs i ys) (hi : i + 1 + i < xs.length) (hx : ys[i]? = some x) (hy : ys[xs.length - 1 - i]? = some y) : RevTo xs (i + 1) ((ys.set i y).set (xs.length - 1 - i) x) := by
  obtain ⟨h1, h2⟩ := h
  refine ⟨by simp [h1], fun k hk => ?_⟩
  have hxx := h2 i (by omega)
  rw [hx, if_neg (by omega)] at hxx
  have hyy := h2 (xs.length - 1 - i) (by omega)
  rw [hy, if_neg (by omega)] at hyy
  by_cases e1 : k = xs.length - 1 - i
  · subst e1
    rw [List.getElem?_set_self (by simp [h1]; omega), if_pos (by omega), show xs.length - 1 - (xs.length - 1 - i) = i by omega, hxx]
  · rw [List.getElem?_set_ne (by omega)]
    by_cases e2 : k = i
    · subst e2
      rw [List.getElem?_set_self (by omega), if_pos (by omega), hyy]
    · rw [List.getElem?_set_ne (by omega), h2 k hk]
      by_cases e3 : k < i ∨ xs.length ≤ k + i
      · rw [if_pos e3, if_pos (by omega)]
      · rw [if_neg e3, if_neg (by omega)]
theorem RevTo.done {xs ys : List Int} {i : Nat} (h : RevTo xs i ys) (hi : xs.length ≤ i + 1 + i) : ys = xs.reverse := by
  obtain ⟨h1, h2⟩ := h
  apply List.ext_getElem?
  intro k
  rcases Nat.lt_or_ge k xs.length with hk | hk
  · rw [h2 k hk, List.getElem?_reverse hk]
    by_cases e : k < i ∨ xs.length ≤ k + i
    · rw [if_pos e]
    · rw [if_neg e]; congr 1; omega
  · rw [List.getElem?_eq_none (by omega), List.getElem?_eq_none (by simp; omega)]
theorem rev_take {xs : List Int} {k : Nat} {x : Int} (hx : xs[k]? = some x) : (xs.drop k).reverse = (xs.drop (k + 1)).reverse ++ [x] := by
  obtain ⟨hk, rfl⟩ := List.getElem?_eq_some_iff.1 hx
  rw [List.drop_eq_getElem_cons hk, List.reverse_cons]
end Go.Proofs.YtjgcmpondbocfaaDoor
