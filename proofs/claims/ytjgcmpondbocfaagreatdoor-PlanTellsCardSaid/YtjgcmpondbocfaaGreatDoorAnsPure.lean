/- The reference's answers beside the program's, in plain Lean: rows under names are lists of keys and values. No condition. -/
import Derived.Test.YtjgcmpondbocfaaGreatDoorOrderPure
namespace Go.Proofs.YtjgcmpondbocfaaGreatDoor

abbrev SX := List (Slot × Term)
/-- The names that are new, each with its first term. -/
def fv : List ByteArray → SX → Ans
  | _, [] => []
  | vs, (s, x) :: r => if s.var = ⟨#[]⟩ ∨ s.var ∈ vs then fv vs r else (s.var, x) :: fv (vs ++ [s.var]) r
theorem fv_congr {vs ws : List ByteArray} {zs : SX} (h : ∀ v, v ∈ vs ↔ v ∈ ws) : fv vs zs = fv ws zs := by
  induction zs generalizing vs ws with
  | nil => rfl
  | cons z r ih =>
    obtain ⟨s, x⟩ := z
    rw [fv, fv]
    simp only [h s.var]
    split
    · exact ih h
    · rw [ih (vs := vs ++ [s.var]) (ws := ws ++ [s.var]) (fun v => by simp [h v])]
theorem fv_fst {vs : List ByteArray} {zs : SX} {v : ByteArray} {x : Term} (h : (v, x) ∈ fv vs zs) : v ≠ ⟨#[]⟩ ∧ ¬ v ∈ vs ∧ ∃ s, (s, x) ∈ zs ∧ s.var = v := by
  induction zs generalizing vs with
  | nil => simp [fv] at h
  | cons z r ih =>
    obtain ⟨s, y⟩ := z
    rw [fv] at h
    split at h
    · obtain ⟨h1, h2, u, h3, h4⟩ := ih h
      exact ⟨h1, h2, u, List.mem_cons_of_mem _ h3, h4⟩
    · rename_i hn
      rcases List.mem_cons.1 h with e | h
      · injection e with e1 e2; subst e1 e2
        exact ⟨fun e => hn (.inl e), fun e => hn (.inr e), s, List.mem_cons_self, rfl⟩
      · obtain ⟨h1, h2, u, h3, h4⟩ := ih h
        exact ⟨h1, fun e => h2 (List.mem_append_left _ e), u, List.mem_cons_of_mem _ h3, h4⟩
theorem keys_get {a : Ans} {v : ByteArray} : v ∈ a.map (·.1) ↔ (getM a v).isSome = true := by
  cases h : getM a v with
  | none =>
    simp only [Option.isSome_none, Bool.false_eq_true, iff_false, List.mem_map]
    rintro ⟨p, hp, e⟩; exact getM_none.1 h p hp e
  | some x => simp only [Option.isSome_some, iff_true]; exact List.mem_map.2 ⟨_, getM_some h, rfl⟩
theorem put_same {a : Ans} (hn : KeysM a) {v : ByteArray} {x : Term} (h : getM a v = some x) : putM a v x = a := by
  obtain ⟨j, hj⟩ := List.mem_iff_getElem?.1 (getM_some h)
  rw [← set_at hn hj]
  apply List.ext_getElem?
  intro i
  by_cases e : j = i
  · subst e; rw [List.getElem?_set_self (lt_of_get hj), hj]
  · rw [List.getElem?_set_ne e]
/-- Terms under one name are alike. -/
def Agree (a : Ans) (zs : SX) : Prop := ∀ s x, (s, x) ∈ zs → s.var ≠ ⟨#[]⟩ → (∀ y, getM a s.var = some y → y = x) ∧ ∀ u y, (u, y) ∈ zs → u.var = s.var → y = x
theorem put_all {a : Ans} (hn : KeysM a) {zs : SX} (h : Agree a zs) : zs.foldl putA a = a ++ fv (a.map (·.1)) zs := by
  induction zs generalizing a with
  | nil => simp [fv]
  | cons z r ih =>
    obtain ⟨s, x⟩ := z
    have hr : Agree a r := fun s x hx hs => ⟨(h s x (List.mem_cons_of_mem _ hx) hs).1, fun u y hy => (h s x (List.mem_cons_of_mem _ hx) hs).2 u y (List.mem_cons_of_mem _ hy)⟩
    rw [List.foldl_cons, fv]
    by_cases e : s.var = ⟨#[]⟩
    · rw [if_pos (.inl e)]
      have : putA a (s, x) = a := by unfold putA; rw [if_pos e]
      rw [this]; exact ih hn hr
    · have hp : putA a (s, x) = putM a s.var x := by unfold putA; rw [if_neg e]
      have h0 := h s x List.mem_cons_self e
      rw [hp]
      by_cases hm : s.var ∈ a.map (·.1)
      · rw [if_pos (.inr hm)]
        obtain ⟨y, hy⟩ := Option.isSome_iff_exists.1 (keys_get.1 hm)
        have := h0.1 y hy
        subst this
        rw [put_same hn hy]; exact ih hn hr
      · rw [if_neg (by rintro (e' | e'); exact e e'; exact hm e')]
        have hg : getM a s.var = none := by
          cases hc : getM a s.var with
          | none => rfl
          | some y => exact absurd (keys_get.2 (by rw [hc]; rfl)) hm
        rw [ih (hn.put s.var x) (fun u y hy hu => ⟨fun z hz => ?_, (hr u y hy hu).2⟩), putM_new hg, List.map_append, List.append_assoc]
        · rfl
        · rw [getM_put] at hz
          split at hz
          · rename_i e2
            injection hz with hz
            rw [← hz]
            exact (h0.2 u y (List.mem_cons_of_mem _ hy) e2).symm
          · exact (hr u y hy hu).1 z hz
/-- A bound pattern's names are those that are not known. -/
theorem fv_bound (a : Ans) (ss : List Slot) (xs : List Term) : fv (a.map (·.1)) ((ss.map (slotA a)).zip xs) = fv (a.map (·.1)) (ss.zip xs) := by
  have key : ∀ (vs : List ByteArray) (ss : List Slot) (xs : List Term), (∀ v, v ∈ a.map (·.1) → v ∈ vs) → fv vs ((ss.map (slotA a)).zip xs) = fv vs (ss.zip xs) := by
    intro vs ss
    induction ss generalizing vs with
    | nil => intro xs _; simp
    | cons s r ih =>
      intro xs hvs
      cases xs with
      | nil => simp
      | cons x xs =>
        rw [List.map_cons, List.zip_cons_cons, List.zip_cons_cons, fv, fv]
        by_cases hc : (getM a s.var).isSome = true ∧ s.var ≠ ⟨#[]⟩
        · have e1 : (slotA a s).var = ⟨#[]⟩ := by unfold slotA; rw [if_pos hc]
          rw [if_pos (.inl e1), if_pos (.inr (hvs _ (keys_get.2 hc.1)))]
          exact ih vs xs hvs
        · have e1 : slotA a s = s := by unfold slotA; rw [if_neg hc]
          rw [e1, ih vs xs hvs, ih (vs ++ [s.var]) xs (fun v hv => List.mem_append_left _ (hvs v hv))]
  exact key _ ss xs fun _ h => h
theorem slots_patA (a : Ans) (p : Pat) : slotsOf (patA a p) = (slotsOf p).map (slotA a) := rfl
theorem zip_mem {p : Pat} {t : Triple} {s : Slot} {x : Term} (h : (s, x) ∈ (slotsOf p).zip (termsOf t)) : ∃ i, i < 3 ∧ (slotsOf p)[i]? = some s ∧ (termsOf t)[i]? = some x := by
  obtain ⟨i, hi⟩ := List.mem_iff_getElem?.1 h
  rw [List.getElem?_zip_eq_some] at hi
  exact ⟨i, lt_of_get hi.1, hi.1, hi.2⟩
theorem agree_bound {a : Ans} {p : Pat} {t : Triple} (h : fitsB (patA a p) t = true) : Agree a ((slotsOf (patA a p)).zip (termsOf t)) := by
  intro s x hs hv
  obtain ⟨i, hi, h1, h2⟩ := zip_mem hs
  refine ⟨fun y hy => ?_, fun u y hu he => ?_⟩
  · rw [slots_patA, List.getElem?_map] at h1
    obtain ⟨s0, hs0, e⟩ := Option.map_eq_some_iff.1 h1
    subst e
    unfold slotA at hy hv
    split at hy
    · rename_i hc; rw [if_pos hc] at hv; exact absurd rfl hv
    · rename_i hc
      rw [if_neg hc] at hv
      exact absurd ⟨by rw [hy]; rfl, hv⟩ hc
  · obtain ⟨k, hk, h3, h4⟩ := zip_mem hu
    rcases Nat.lt_trichotomy i k with hlt | rfl | hlt
    · have := fits_pair h hk hlt
      rw [badPair_at h3 h4 h1 h2] at this
      simp [he, hv] at this
      exact this.symm
    · rw [h1] at h3; rw [h2] at h4
      injection h4 with h4; exact h4.symm
    · have := fits_pair h hi hlt
      rw [badPair_at h1 h2 h3 h4] at this
      simp [he, hv] at this
      exact this
theorem withA_eq {a : Ans} (hn : KeysM a) {p : Pat} {t : Triple} (h : fitsB (patA a p) t = true) : withA a (patA a p) t = a ++ fv (a.map (·.1)) ((slotsOf p).zip (termsOf t)) := by
  unfold withA
  rw [put_all hn (agree_bound h), slots_patA, fv_bound]
/-- The names that come with a part. -/
def freshL (vs : List ByteArray) (p : Pat) : List ByteArray := (patVars p).filter fun v => !decide (v ∈ vs)
theorem fresh_fv (vs : List ByteArray) (p : Pat) (t : Triple) : freshL vs p = (fv vs ((slotsOf p).zip (termsOf t))).map (·.1) := by
  have key : ∀ (ss : List Slot) (xs : List Term) (out : List ByteArray), ss.length ≤ xs.length → (ss.foldl addS out).filter (fun v => !decide (v ∈ vs)) = out.filter (fun v => !decide (v ∈ vs)) ++ (fv (vs ++ out) (ss.zip xs)).map (·.1) := by
    intro ss
    induction ss with
    | nil => intro xs out _; simp [fv]
    | cons s r ih =>
      intro xs out hl
      cases xs with
      | nil => simp at hl
      | cons x xs =>
        have hl' : r.length ≤ xs.length := by simp at hl; omega
        rw [List.foldl_cons, ih xs _ hl', List.zip_cons_cons, fv]
        by_cases e : s.var = ⟨#[]⟩
        · have e1 : addS out s = out := by unfold addS; rw [if_pos e]
          rw [e1, if_pos (.inl e)]
        · have e1 : addS out s = addV out s.var := by unfold addS; rw [if_neg e]
          rw [e1]
          by_cases ho : s.var ∈ out
          · have e2 : addV out s.var = out := by unfold addV; rw [if_pos ho]
            rw [e2, if_pos (.inr (List.mem_append_right _ ho))]
          · have e2 : addV out s.var = out ++ [s.var] := by unfold addV; rw [if_neg ho]
            rw [e2, List.filter_append]
            by_cases hv : s.var ∈ vs
            · rw [if_pos (.inr (List.mem_append_left _ hv))]
              have : [s.var].filter (fun v => !decide (v ∈ vs)) = [] := by simp [hv]
              rw [this, List.append_nil]
              congr 2
              exact fv_congr fun v => by
                simp only [List.mem_append, List.mem_singleton]
                constructor
                · rintro (h | h | h)
                  · exact .inl h
                  · exact .inr h
                  · exact .inl (h ▸ hv)
                · rintro (h | h)
                  · exact .inl h
                  · exact .inr (.inl h)
            · rw [if_neg (by rintro (h | h); exact e h; rcases List.mem_append.1 h with h | h; exact hv h; exact ho h)]
              have : [s.var].filter (fun v => !decide (v ∈ vs)) = [s.var] := by simp [hv]
              rw [this, List.map_cons, List.append_assoc, List.append_assoc]; rfl
  have := key (slotsOf p) (termsOf t) [] (Nat.le_refl 3)
  rw [List.append_nil] at this
  exact this
/-- The term that a pattern gives to a name. -/
def termAt (p : Pat) (t : Triple) (v : ByteArray) : Term := ((((slotsOf p).zip (termsOf t)).find? fun z => decide (z.1.var = v)).map (·.2)).getD noTerm
theorem fv_termAt {vs : List ByteArray} {p : Pat} {t : Triple} : (fv vs ((slotsOf p).zip (termsOf t))).map (·.2) = (freshL vs p).map (termAt p t) := by
  rw [fresh_fv vs p t, List.map_map]
  apply List.map_congr_left
  rintro ⟨v, x⟩ hx
  simp only [Function.comp]
  unfold termAt
  have key : ∀ (vs : List ByteArray) (zs : SX), (v, x) ∈ fv vs zs → zs.find? (fun z => decide (z.1.var = v)) = none ∨ ((zs.find? fun z => decide (z.1.var = v)).map (·.2)) = some x := by
    intro vs zs
    induction zs generalizing vs with
    | nil => intro h; simp [fv] at h
    | cons z r ih =>
      obtain ⟨s, y⟩ := z
      intro h
      rw [fv] at h
      rw [List.find?_cons]
      split at h
      · rename_i hc
        have hne : s.var ≠ v := fun e => by
          have := fv_fst h
          rcases hc with hc | hc
          · exact this.1 (e ▸ hc)
          · exact this.2.1 (e ▸ hc)
        simp only [hne, decide_false]
        exact ih vs h
      · rename_i hc
        rcases List.mem_cons.1 h with e | h
        · injection e with e1 e2; subst e1 e2
          simp
        · have hne : s.var ≠ v := fun e => (fv_fst h).2.1 (by simp [e])
          simp only [hne, decide_false]
          exact ih _ h
  obtain ⟨_, _, s, hs, hv⟩ := fv_fst hx
  rcases key vs _ hx with h | h
  · rw [List.find?_eq_none] at h
    exact absurd (decide_eq_true hv) (by simpa using h _ hs)
  · rw [h]; rfl
/-! ### rows -/
/-- So far: names, rows; they are the answers so far. -/
structure Rows (set : List Triple) (ps : List Pat) (vs : List ByteArray) (rows : List (List Term)) : Prop where
  nodup : vs.Nodup
  nonempty : ∀ v ∈ vs, v ≠ ⟨#[]⟩
  len : ∀ r ∈ rows, r.length = vs.length
  ans : rows.map (vs.zip ·) = levels set [[]] ps
theorem Rows.start (set : List Triple) : Rows set [] [] [[]] := ⟨by simp, by simp, by simp, rfl⟩
theorem zip_keys {vs : List ByteArray} {r : List Term} (h : r.length = vs.length) : (vs.zip r).map (·.1) = vs := by
  rw [← List.unzip_fst, List.unzip_zip (by omega)]
/-- A row of the next part. -/
def rowOf (vs : List ByteArray) (r : List Term) (p : Pat) (t : Triple) : List Term := r ++ (freshL vs p).map (termAt p t)
def nextRows (set : List Triple) (vs : List ByteArray) (p : Pat) (r : List Term) : List (List Term) := (ofL set (patA (vs.zip r) p)).map (rowOf vs r p)
theorem nextRows_ans {set : List Triple} {vs : List ByteArray} (hn : vs.Nodup) {p : Pat} {r : List Term} (hl : r.length = vs.length) : (nextRows set vs p r).map ((vs ++ freshL vs p).zip ·) = stepA set (vs.zip r) p := by
  unfold nextRows stepA
  rw [List.map_map]
  apply List.map_congr_left
  intro t ht
  have hf : fitsB (patA (vs.zip r) p) t = true := (List.mem_filter.1 ht).2
  simp only [Function.comp]
  rw [withA_eq (by unfold KeysM; rw [zip_keys hl]; exact hn) hf, zip_keys hl]
  unfold rowOf
  rw [List.zip_append (by omega), ← fv_termAt, fresh_fv vs p t]
  congr 1
  generalize fv vs _ = l
  induction l with
  | nil => rfl
  | cons a l ih => rw [List.map_cons, List.map_cons, List.zip_cons_cons, ih]
theorem Rows.step {set : List Triple} {ps : List Pat} {vs : List ByteArray} {rows : List (List Term)} (h : Rows set ps vs rows) (p : Pat) : Rows set (ps ++ [p]) (vs ++ freshL vs p) (rows.flatMap (nextRows set vs p)) := by
  refine ⟨?_, fun v hv => ?_, fun r hr => ?_, ?_⟩
  · rw [List.nodup_append]
    have hp : (patVars p).Nodup := by
      have : ∀ (ss : List Slot) (out : List ByteArray), out.Nodup → (ss.foldl addS out).Nodup := by
        intro ss
        induction ss with
        | nil => intro out h; exact h
        | cons s r ih =>
          intro out h
          rw [List.foldl_cons]
          refine ih _ ?_
          unfold addS
          split
          · exact h
          · exact addV_nodup h _
      exact this _ _ List.nodup_nil
    refine ⟨h.nodup, hp.sublist List.filter_sublist, fun a ha b hb e => ?_⟩
    subst e
    have := (List.mem_filter.1 hb).2
    simp [ha] at this
  · rcases List.mem_append.1 hv with hv | hv
    · exact h.nonempty v hv
    · exact (mem_patVars.1 (List.mem_filter.1 hv).1).1
  · obtain ⟨r0, hr0, hr⟩ := List.mem_flatMap.1 hr
    unfold nextRows at hr
    obtain ⟨t, _, rfl⟩ := List.mem_map.1 hr
    unfold rowOf
    rw [List.length_append, List.length_append, List.length_map, h.len r0 hr0]
  · rw [levels_snoc, ← h.ans, List.flatMap_map, List.map_flatMap]
    have : ∀ (l : List (List Term)), (∀ r ∈ l, r.length = vs.length) → (l.flatMap fun r => (nextRows set vs p r).map ((vs ++ freshL vs p).zip ·)) = l.flatMap fun r => stepA set (vs.zip r) p := by
      intro l
      induction l with
      | nil => intro _; rfl
      | cons r l ih =>
        intro hl
        rw [List.flatMap_cons, List.flatMap_cons, nextRows_ans h.nodup (hl r List.mem_cons_self), ih (fun r hr => hl r (List.mem_cons_of_mem _ hr))]
    exact this rows h.len
theorem Rows.count {set : List Triple} {ps : List Pat} {vs : List ByteArray} {rows : List (List Term)} (h : Rows set ps vs rows) : rows.length = (levels set [[]] ps).length := by rw [← h.ans, List.length_map]
/-- The counts, one part after the other. -/
theorem counts_snoc (set : List Triple) (as : List Ans) (ps : List Pat) (p : Pat) : counts set as (ps ++ [p]) = counts set as ps ++ [(levels set as (ps ++ [p])).length] := by
  induction ps generalizing as with
  | nil => simp [counts, levels]
  | cons q r ih => rw [List.cons_append, counts, counts, ih]; rfl
theorem looked_snoc (set : List Triple) (as : List Ans) (ps : List Pat) (p : Pat) : lookedN set as (ps ++ [p]) = lookedN set as ps + (levels set as (ps ++ [p])).length := by
  unfold lookedN
  rw [counts_snoc]
  have h := counts_len set as ps
  cases hc : counts set as ps with
  | nil => rw [hc] at h; simp at h
  | cons x r => simp [List.sum_append]
/-- What is over behind some part stays over. -/
theorem over_append {set : List Triple} {as : List Ans} {ps qs : List Pat} (h : ¬ AllLe (counts set as ps)) : ¬ AllLe (counts set as (ps ++ qs)) := by
  induction qs generalizing ps with
  | nil => rw [List.append_nil]; exact h
  | cons q r ih =>
    have : ¬ AllLe (counts set as (ps ++ [q])) := fun hall => h fun x hx => hall x (by rw [counts_snoc]; exact List.mem_append_left _ hx)
    have := ih this
    rwa [List.append_assoc] at this
end Go.Proofs.YtjgcmpondbocfaaGreatDoor
