/- What comes of two that came of one, in plain Lean. No condition. -/
import Derived.Test.YtjgcmpondbocfaaGreatDoorMergePure
namespace Go.Proofs.YtjgcmpondbocfaaGreatDoor
theorem clashB_comm (o x y : List Triple) : clashB o x y = clashB o y x := by
  unfold clashB
  by_cases h1 : o = x <;> by_cases h2 : o = y <;> by_cases h3 : x = y <;> simp [h1, h2, h3, eq_comm] <;> (try simp_all [eq_comm])
theorem pickL_comm {o x y : List Triple} (h : clashB o x y = false) (f g : Bool) : pickL o x y f = pickL o y x g := by
  unfold clashB at h
  unfold pickL
  by_cases h1 : o = x
  · by_cases h2 : o = y
    · rw [if_pos h1, if_pos h2, ← h1, ← h2]
    · rw [if_pos h1, if_neg h2, if_pos (.inl h1)]
  · by_cases h2 : o = y
    · rw [if_neg h1, if_pos (.inl h2), if_pos h2]
    · by_cases h3 : x = y
      · rw [if_neg h1, if_pos (.inr h3), if_neg h2, if_pos (.inr h3.symm), h3]
      · simp [h1, h2, h3] at h
theorem mem_sideOf {l : List Triple} {k : Clash} {t : Triple} : t ∈ sideOf l k ↔ t ∈ l ∧ keyOf t = k := by
  unfold sideOf; rw [List.mem_filter]; simp
theorem pickL_sub {o x y : List Triple} {f : Bool} {t : Triple} (h : t ∈ pickL o x y f) : t ∈ x ∨ t ∈ y := by
  unfold pickL at h
  split at h
  · exact .inr h
  · split at h
    · exact .inl h
    · split at h
      · exact .inl h
      · exact .inr h
theorem pickL_both {o x y : List Triple} {f : Bool} {t : Triple} (h1 : t ∈ x) (h2 : t ∈ y) : t ∈ pickL o x y f := by
  unfold pickL
  split
  · exact h2
  · split
    · exact h1
    · split
      · exact h1
      · exact h2
theorem pickL_key {base a b : List Triple} {f : Bool} {k : Clash} {t : Triple} (h : t ∈ pickL (sideOf base k) (sideOf a k) (sideOf b k) f) : keyOf t = k := by
  rcases pickL_sub h with h | h <;> exact (mem_sideOf.1 h).2
theorem outL_sub {base a b : List Triple} {f : Bool} {ks : List Clash} {t : Triple} (h : t ∈ outL base a b f ks) : t ∈ a ∨ t ∈ b := by
  unfold outL at h
  obtain ⟨k, _, hk⟩ := List.mem_flatMap.1 h
  rcases pickL_sub hk with h | h
  · exact .inl (mem_sideOf.1 h).1
  · exact .inr (mem_sideOf.1 h).1
theorem outL_both {base a b : List Triple} {f : Bool} {ks : List Clash} (hk : IsPairs [base, a, b] ks) {t : Triple} (h1 : t ∈ a) (h2 : t ∈ b) : t ∈ outL base a b f ks := by
  unfold outL
  refine List.mem_flatMap.2 ⟨keyOf t, (hk.mem _).2 ⟨a, by simp, t, h1, rfl⟩, pickL_both (mem_sideOf.2 ⟨h1, rfl⟩) (mem_sideOf.2 ⟨h2, rfl⟩)⟩
theorem orI_assoc (a b c : Int) : orI a (orI b c) = orI (orI a b) c := by
  unfold orI
  by_cases h : a = 0 <;> simp [h]
theorem tripCmp_key (a b : Triple) : tripCmp a b = orI (clashCmp (keyOf a) (keyOf b)) (termCmp a.o b.o) := by
  unfold tripCmp clashCmp keyOf; rw [orI_assoc]
theorem key_lt {a b : Triple} (h : clashCmp (keyOf a) (keyOf b) < 0) : tripCmp a b < 0 := by
  rw [tripCmp_key, orI, if_pos (by omega)]; exact h
theorem pickL_rises {o x y : List Triple} {f : Bool} (hx : Rises tripCmp x) (hy : Rises tripCmp y) : Rises tripCmp (pickL o x y f) := by
  unfold pickL
  split
  · exact hy
  · split
    · exact hx
    · split
      · exact hx
      · exact hy
theorem outL_rises {base a b : List Triple} {f : Bool} {ks : List Clash} (hr : Rises clashCmp ks) (ha : Rises tripCmp a) (hb : Rises tripCmp b) : Rises tripCmp (outL base a b f ks) := by
  unfold outL Rises
  rw [List.pairwise_flatMap]
  refine ⟨fun k _ => pickL_rises (ha.filter _) (hb.filter _), List.Pairwise.imp (fun {k k'} h x hx y hy => key_lt ?_) hr⟩
  rw [pickL_key hx, pickL_key hy]; exact h
/-- Merged with what did not change, it is the other one. -/
theorem outL_same {base a : List Triple} {f : Bool} {ks : List Clash} (hk : IsPairs [base, a, base] ks) (ha : Rises tripCmp a) (hb : Rises tripCmp base) : outL base a base f ks = a := by
  refine Rises.eq tripCmp_is (outL_rises hk.rises ha hb) ha fun t => ⟨fun h => ?_, fun h => ?_⟩
  · unfold outL at h
    obtain ⟨k, _, h⟩ := List.mem_flatMap.1 h
    unfold pickL at h
    split at h
    · rename_i e; rw [e] at h; exact (mem_sideOf.1 h).1
    · rw [if_pos (.inl rfl)] at h; exact (mem_sideOf.1 h).1
  · unfold outL
    refine List.mem_flatMap.2 ⟨keyOf t, (hk.mem _).2 ⟨a, by simp, t, h, rfl⟩, ?_⟩
    have ht : t ∈ sideOf a (keyOf t) := mem_sideOf.2 ⟨h, rfl⟩
    unfold pickL
    split
    · rename_i e; rw [e]; exact ht
    · rw [if_pos (.inl rfl)]; exact ht
theorem clashL_same (base a : List Triple) (ks : List Clash) : clashL base a base ks = [] := by
  unfold clashL
  rw [List.filter_eq_nil_iff]
  intro k _
  simp [clashB]
theorem clashL_comm (base a b : List Triple) (ks : List Clash) : clashL base a b ks = clashL base b a ks := by
  unfold clashL
  exact List.filter_congr fun k _ => clashB_comm _ _ _
theorem outL_comm {base a b : List Triple} {f g : Bool} {ks : List Clash} (h : clashL base a b ks = []) : outL base a b f ks = outL base b a g ks := by
  unfold clashL at h
  rw [List.filter_eq_nil_iff] at h
  unfold outL
  induction ks with
  | nil => rfl
  | cons k r ih =>
    rw [List.flatMap_cons, List.flatMap_cons, ih (fun x hx => h x (List.mem_cons_of_mem _ hx))]
    congr 1
    exact pickL_comm (by simpa using h k List.mem_cons_self) f g
theorem IsPairs.comm {base a b : List Triple} {ks : List Clash} (h : IsPairs [base, a, b] ks) : IsPairs [base, b, a] ks :=
  ⟨h.rises, fun k => (h.mem k).trans (by simp only [List.mem_cons, List.not_mem_nil, or_false, exists_eq_or_imp, exists_eq_left]; constructor <;> (rintro (h | h | h); exact .inl h; exact .inr (.inr h); exact .inr (.inl h)))⟩
/-! ### the law -/
theorem firstE_iff {l : List (Option Int)} : firstE l = none ↔ ∀ x ∈ l, x = none := by
  induction l with
  | nil => simp [firstE]
  | cons a r ih =>
    cases a with
    | some e => simp [firstE]
    | none => simp [firstE, ih]
theorem right_iff {ls : List (List Triple)} : rightErr ls = none ↔ ∀ l ∈ ls, IsSet l := by
  unfold rightErr
  rw [firstE_iff]
  constructor
  · intro h l hl; exact setErr_iff.1 (h _ (List.mem_map.2 ⟨l, hl, rfl⟩))
  · intro h x hx
    obtain ⟨l, hl, rfl⟩ := List.mem_map.1 hx
    exact setErr_iff.2 (h l hl)
/-- The outcomes of a merge of sets that are right. -/
theorem mergeL_right {base a b : List Triple} {ks : List Clash} (h : rightErr [base, a, b] = none) :
    mergeL base a b ks = if 0 < (clashL base a b ks).length then ([], clashL base a b ks, some 9) else if 200 < (outL base a b true ks).length then ([], [], some 4) else (outL base a b true ks, [], none) := by
  simp only [mergeL, h]
theorem merge_comm {base a b : List Triple} {k1 k2 : List Clash} (h1 : rightErr [base, a, b] = none → IsPairs [base, a, b] k1) (h2 : rightErr [base, b, a] = none → IsPairs [base, b, a] k2) :
    (mergeL base a b k1).1 = (mergeL base b a k2).1 ∧ (mergeL base a b k1).2.1 = (mergeL base b a k2).2.1 ∧ (mergeL base a b k1).2.2.isNone = (mergeL base b a k2).2.2.isNone := by
  have hr : rightErr [base, a, b] = none ↔ rightErr [base, b, a] = none := by
    rw [right_iff, right_iff]; simp only [List.mem_cons, List.not_mem_nil, or_false, forall_eq_or_imp, forall_eq]
    exact ⟨fun ⟨x, y, z⟩ => ⟨x, z, y⟩, fun ⟨x, y, z⟩ => ⟨x, z, y⟩⟩
  cases hc : rightErr [base, a, b] with
  | none =>
    have hc2 := hr.1 hc
    have e : k1 = k2 := (h1 hc).comm.uniq (h2 hc2)
    subst e
    rw [mergeL_right hc, mergeL_right hc2, ← clashL_comm base a b]
    by_cases hcl : clashL base a b k1 = []
    · rw [outL_comm (f := true) (g := true) hcl]
      exact ⟨rfl, rfl, rfl⟩
    · have : 0 < (clashL base a b k1).length := List.length_pos_iff.2 hcl
      rw [if_pos this, if_pos this]
      exact ⟨rfl, rfl, rfl⟩
  | some e =>
    have hc2 : rightErr [base, b, a] ≠ none := fun h => by rw [hr.2 h] at hc; cases hc
    obtain ⟨e2, he2⟩ := Option.ne_none_iff_exists'.1 hc2
    simp [mergeL, hc, he2]
theorem merge_bad {base a b : List Triple} {ks : List Clash} (h : ¬ (IsSet base ∧ IsSet a ∧ IsSet b)) : (mergeL base a b ks).2.2.isSome = true := by
  cases hc : rightErr [base, a, b] with
  | none =>
    have := right_iff.1 hc
    exact absurd ⟨this base (by simp), this a (by simp), this b (by simp)⟩ h
  | some e => simp only [mergeL, hc]; rfl
theorem right3 {a b c : List Triple} (ha : IsSet a) (hb : IsSet b) (hc : IsSet c) : rightErr [a, b, c] = none := right_iff.2 (by simp [ha, hb, hc])
theorem merge_same {base a : List Triple} {ks : List Clash} (hb : IsSet base) (ha : IsSet a) (hp : rightErr [base, a, base] = none → IsPairs [base, a, base] ks) : mergeL base a base ks = (a, [], none) := by
  have hr := right3 hb ha hb
  have hk := hp hr
  have := ha.few
  rw [mergeL_right hr, clashL_same, outL_same hk ha.rises hb.rises, if_neg (by simp), if_neg (by omega)]
/-- Where it comes to nothing, it is for pairs that clash, or for too many. -/
theorem merge_err {base a b : List Triple} {ks : List Clash} (h0 : IsSet base) (h1 : IsSet a) (h2 : IsSet b) : (decide ((mergeL base a b ks).2.2.getD 0 = 9) == decide (0 < (mergeL base a b ks).2.1.length)) = true := by
  rw [mergeL_right (right3 h0 h1 h2)]
  split
  · rename_i h; simp [h]
  · split <;> simp
theorem merge_ok {base a b : List Triple} {ks : List Clash} (h0 : IsSet base) (h1 : IsSet a) (h2 : IsSet b) (h : (mergeL base a b ks).2.2.isSome = false) : mergeL base a b ks = (outL base a b true ks, [], none) ∧ (outL base a b true ks).length ≤ 200 := by
  rw [mergeL_right (right3 h0 h1 h2)] at h ⊢
  split at h
  · cases h
  · rename_i hc
    rw [if_neg hc]
    split at h
    · cases h
    · rename_i hl
      rw [if_neg hl]
      exact ⟨rfl, by omega⟩
theorem outL_set {base a b : List Triple} {ks : List Clash} (hk : IsPairs [base, a, b] ks) (h1 : IsSet a) (h2 : IsSet b) (hl : (outL base a b true ks).length ≤ 200) : IsSet (outL base a b true ks) :=
  ⟨hl, fun t ht => (outL_sub ht).elim (h1.ok t) (h2.ok t), outL_rises hk.rises h1.rises h2.rises⟩
theorem both_kept {base a b : List Triple} {ks : List Clash} (hk : IsPairs [base, a, b] ks) : partL (partL a b true) (outL base a b true ks) true = partL a b true := by
  unfold partL
  rw [List.filter_eq_self]
  intro t ht
  have := (List.mem_filter.1 ht)
  have h2 : t ∈ b := by simpa using this.2
  simp [outL_both hk this.1 h2]
end Go.Proofs.YtjgcmpondbocfaaGreatDoor
