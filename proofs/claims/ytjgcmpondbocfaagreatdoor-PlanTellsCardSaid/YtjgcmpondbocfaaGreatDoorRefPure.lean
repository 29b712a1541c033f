/- The references on sets and on merging, in plain Lean: a list that is put in order, pairs, what differs. No condition. -/
import Derived.Test.YtjgcmpondbocfaaGreatDoorMergeLaw
namespace Go.Proofs.YtjgcmpondbocfaaGreatDoor

/-! ### an element laid into a row -/
/-- A list in order, each of its elements once: told by what is in it. -/
structure IsSorted (l s : List Triple) : Prop where
  rises : Rises tripCmp s
  mem : ∀ x, x ∈ s ↔ x ∈ l
  few : s.length ≤ l.length
/-! ### pairs of a row in order -/
theorem key_le {a b : Triple} (h : tripCmp a b < 0) : clashCmp (keyOf a) (keyOf b) ≤ 0 := by
  rw [tripCmp_key, orI] at h
  split at h <;> omega
/-- So far: the pairs of what stands ahead of place i. -/
structure PairsTo (s : List Triple) (i : Nat) (out : List Clash) : Prop where
  rises : Rises clashCmp out
  mem : ∀ k, k ∈ out ↔ ∃ t ∈ s.take i, keyOf t = k
  last : 0 < i → ∃ t, s[i - 1]? = some t ∧ out[out.length - 1]? = some (keyOf t)
theorem PairsTo.start (s : List Triple) : PairsTo s 0 [] := ⟨List.Pairwise.nil, fun k => by simp, fun h => absurd h (by omega)⟩
theorem PairsTo.ne {s : List Triple} {i : Nat} {out : List Clash} (h : PairsTo s i out) (hi : 0 < i) : 0 < out.length := by
  obtain ⟨t, _, h2⟩ := h.last hi
  have := lt_of_get h2; omega
theorem PairsTo.pos {s : List Triple} {i : Nat} {out : List Clash} (h : PairsTo s i out) (hi : 0 < out.length) : 0 < i := by
  rcases Nat.eq_zero_or_pos i with e | e
  · subst e
    obtain ⟨t, ht, _⟩ := (h.mem out[0]).1 (List.getElem_mem hi)
    simp at ht
  · exact e
/-- One that is there. -/
theorem PairsTo.same {s : List Triple} {i : Nat} {out : List Clash} {x : Triple} {c : Clash} (h : PairsTo s i out) (hx : s[i]? = some x) (hc : out[out.length - 1]? = some c) (e : c = keyOf x) : PairsTo s (i + 1) out := by
  refine ⟨h.rises, fun k => ?_, fun _ => ⟨x, hx, e ▸ hc⟩⟩
  rw [take_snoc hx, h.mem]
  constructor
  · rintro ⟨t, ht, hk⟩; exact ⟨t, List.mem_append_left _ ht, hk⟩
  · rintro ⟨t, ht, hk⟩
    rcases List.mem_append.1 ht with ht | ht
    · exact ⟨t, ht, hk⟩
    · rw [List.mem_singleton] at ht; subst ht
      have : c ∈ out := List.mem_of_getElem? hc
      rw [e, hk] at this
      exact (h.mem k).1 this
/-- One that is not. -/
theorem PairsTo.more {s : List Triple} {i : Nat} {out : List Clash} {x : Triple} (h : PairsTo s i out) (hr : Rises tripCmp s) (hx : s[i]? = some x) (hn : ∀ c, out[out.length - 1]? = some c → c ≠ keyOf x) : PairsTo s (i + 1) (out ++ [keyOf x]) := by
  have below : ∀ c ∈ out, clashCmp c (keyOf x) < 0 := by
    intro c hc
    have hpos : 0 < out.length := List.length_pos_of_mem hc
    obtain ⟨t, ht, hl⟩ := h.last (h.pos hpos)
    have hi := h.pos hpos
    have h1 : tripCmp t x < 0 := by
      obtain ⟨a1, a2⟩ := List.getElem?_eq_some_iff.1 ht
      obtain ⟨b1, b2⟩ := List.getElem?_eq_some_iff.1 hx
      have := (List.pairwise_iff_getElem.1 hr) (i - 1) i a1 b1 (by omega)
      rwa [a2, b2] at this
    have h2 := key_le h1
    have h3 : clashCmp (keyOf t) (keyOf x) ≠ 0 := fun e => hn _ hl ((clashCmp_is.eq _ _).1 e)
    have h4 : clashCmp (keyOf t) (keyOf x) < 0 := by omega
    obtain ⟨j, hj, rfl⟩ := List.getElem_of_mem hc
    obtain ⟨c1, c2⟩ := List.getElem?_eq_some_iff.1 hl
    rcases Nat.lt_or_ge j (out.length - 1) with hlt | hge
    · have := (List.pairwise_iff_getElem.1 h.rises) j (out.length - 1) hj c1 hlt
      rw [c2] at this
      exact clashCmp_is.trans _ _ _ this h4
    · have : j = out.length - 1 := by omega
      subst this
      rw [c2]; exact h4
  refine ⟨?_, fun k => ?_, fun _ => ⟨x, hx, by simp⟩⟩
  · unfold Rises
    rw [List.pairwise_append]
    exact ⟨h.rises, List.pairwise_singleton _ _, fun a ha b hb => by rw [List.mem_singleton] at hb; subst hb; exact below a ha⟩
  · rw [take_snoc hx, List.mem_append, h.mem, List.mem_singleton]
    constructor
    · rintro (⟨t, ht, hk⟩ | rfl)
      · exact ⟨t, List.mem_append_left _ ht, hk⟩
      · exact ⟨x, by simp, rfl⟩
    · rintro ⟨t, ht, hk⟩
      rcases List.mem_append.1 ht with ht | ht
      · exact .inl ⟨t, ht, hk⟩
      · rw [List.mem_singleton] at ht; subst ht; exact .inr hk.symm
theorem PairsTo.all {l s : List Triple} {out : List Clash} (h : PairsTo s s.length out) (hs : IsSorted l s) : Rises clashCmp out ∧ ∀ k, k ∈ out ↔ ∃ t ∈ l, keyOf t = k := by
  refine ⟨h.rises, fun k => (h.mem k).trans ?_⟩
  rw [List.take_of_length_le (Nat.le_refl _)]
  exact ⟨fun ⟨t, ht, hk⟩ => ⟨t, (hs.mem t).1 ht, hk⟩, fun ⟨t, ht, hk⟩ => ⟨t, (hs.mem t).2 ht, hk⟩⟩
/-! ### what the references say is wrong -/
def wrongI (o : Option Int) : Int := o.getD 0
theorem wrong0 {o : Option Int} (h : ∀ e, o = some e → e ≠ 0) : wrongI o = 0 ↔ o = none := by
  cases o with
  | none => simp [wrongI]
  | some e => simp [wrongI, h e rfl]
theorem termErr_pos {t : Term} {e : Int} (h : termErr t = some e) : 0 < e := by
  unfold termErr at h
  repeat' split at h
  all_goals first | (injection h with h; omega) | cases h
theorem firstE_mem {l : List (Option Int)} {e : Int} (h : firstE l = some e) : some e ∈ l := by
  induction l with
  | nil => cases h
  | cons a r ih =>
    cases a with
    | some x => injection h with h; subst h; exact List.mem_cons_self
    | none => exact List.mem_cons_of_mem _ (ih h)
theorem tripErr_pos {t : Triple} {e : Int} (h : tripErr t = some e) : 0 < e := by
  unfold tripErr at h
  split at h
  · rename_i x hx
    injection h with h; subst h
    obtain ⟨y, _, hy⟩ := List.mem_map.1 (firstE_mem hx)
    exact termErr_pos hy
  · split at h
    · cases h
    · injection h with h; omega
theorem setErrFrom_pos : ∀ {l : List Triple} {prev : Option Triple} {e : Int}, setErrFrom prev l = some e → 0 < e
  | [], _, e, h => by cases h
  | t :: r, prev, e, h => by
    rw [setErrFrom_cons] at h
    cases ht : tripErr t with
    | some x => rw [ht] at h; injection h with h; subst h; exact tripErr_pos ht
    | none =>
      rw [ht] at h
      cases prev with
      | none => exact setErrFrom_pos h
      | some q =>
        simp only at h
        split at h
        · injection h with h; omega
        · exact setErrFrom_pos h
theorem setErr_pos {l : List Triple} {e : Int} (h : setErr l = some e) : 0 < e := by
  unfold setErr at h
  split at h
  · injection h with h; omega
  · exact setErrFrom_pos h
theorem termErr_0 {t : Term} : wrongI (termErr t) = 0 ↔ termErr t = none := wrong0 fun e h => by have := termErr_pos h; omega
theorem tripErr_0 {t : Triple} : wrongI (tripErr t) = 0 ↔ tripErr t = none := wrong0 fun e h => by have := tripErr_pos h; omega
theorem setErr_0 {l : List Triple} : wrongI (setErr l) = 0 ↔ setErr l = none := wrong0 fun e h => by have := setErr_pos h; omega
theorem wrong_tripErr (t : Triple) : wrongI (tripErr t) = if wrongI (termErr t.s) ≠ 0 then wrongI (termErr t.s) else if wrongI (termErr t.p) ≠ 0 then wrongI (termErr t.p) else if wrongI (termErr t.o) ≠ 0 then wrongI (termErr t.o) else if shapeB t = false then 3 else 0 := by
  unfold tripErr
  simp only [ne_eq, termErr_0]
  unfold termsOf
  cases h1 : termErr t.s with
  | some e => simp [h1, firstE, wrongI]
  | none =>
    cases h2 : termErr t.p with
    | some e => simp [h1, h2, firstE, wrongI]
    | none =>
      cases h3 : termErr t.o with
      | some e => simp [h1, h2, h3, firstE, wrongI]
      | none => cases h4 : shapeB t <;> simp [h1, h2, h3, firstE, wrongI]
/-- What a term's text may have, as the reference tells it. -/
def rightS (kind : Int) (s : ByteArray) : Bool := if s = ⟨#[]⟩ then decide (kind = 3) else s.data.toList.all (okByte kind) && !(decide (kind = 1) && !firstLetter s)
theorem rightS_eq (t : Term) : rightS t.kind t.s = textB t := by
  unfold rightS textB
  by_cases h : t.s = ⟨#[]⟩
  · rw [if_pos h, h]
    by_cases h3 : t.kind = 3
    · simp [h3]
    · simp [h3]
  · rw [if_neg h]; simp [h]
def lettersB (s : ByteArray) (n : Int) : Bool := !decide (s = ⟨#[]⟩) && (!decide (n < (s.size : Int)) && s.data.toList.all letterB)
theorem langB_eq (t : Term) (h : t.lang ≠ ⟨#[]⟩) : langB t = (decide (t.kind = 3) && (decide ((t.lang.size : Int) = 2) && lettersB t.lang 2)) := by
  unfold langB lettersB
  by_cases h3 : t.kind = 3
  · by_cases h2 : (t.lang.size : Int) = 2
    · simp [h, h3, h2]
    · simp [h, h3, h2]
  · simp [h, h3]
theorem langB_nil (t : Term) (h : t.lang = ⟨#[]⟩) : langB t = true := by unfold langB; simp [h]
end Go.Proofs.YtjgcmpondbocfaaGreatDoor
