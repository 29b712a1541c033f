/- The reference's answers: what its loops hold, in plain Lean; a function of four results. No condition. -/
import Derived.Test.YtjgcmpondbocfaaGreatDoorTqPure
namespace Go.Proofs.YtjgcmpondbocfaaGreatDoor
open Go.RowKit

theorem levels_le {set : List Triple} {as : List Ans} {ps : List Pat} (h : AllLe (counts set as ps)) : (levels set as ps).length ≤ 500 := by
  rcases List.eq_nil_or_concat ps with rfl | ⟨qs, p, rfl⟩
  · exact h _ (by simp [counts, levels])
  · rw [List.concat_eq_append] at h ⊢
    rw [counts_snoc] at h
    exact h _ (List.mem_append_right _ (List.mem_singleton.2 rfl))
theorem allLe_snoc {set : List Triple} {as : List Ans} {ps : List Pat} {p : Pat} (h : AllLe (counts set as ps)) (hl : (levels set as (ps ++ [p])).length ≤ 500) : AllLe (counts set as (ps ++ [p])) := fun x hx => by
  rw [counts_snoc] at hx
  rcases List.mem_append.1 hx with hx | hx
  · exact h x hx
  · rw [List.mem_singleton.1 hx]; exact hl
theorem freshL_len (vs : List ByteArray) (p : Pat) : (freshL vs p).length ≤ 3 := Nat.le_trans (List.length_filter_le _ _) (patVars_len p)
theorem fresh_slot {vs : List ByteArray} {p : Pat} {v : ByteArray} (h : v ∈ freshL vs p) : ∃ s ∈ slotsOf p, s.var = v := (mem_patVars.1 (List.mem_filter.1 h).1).2
theorem termAt_first {p : Pat} {t : Triple} {v : ByteArray} {a : Nat} {s : Slot} {x : Term} (hs : (slotsOf p)[a]? = some s) (hx : (termsOf t)[a]? = some x) (hv : s.var = v) (hall : ∀ c u, c < a → (slotsOf p)[c]? = some u → u.var ≠ v) : termAt p t v = x := by
  have key : ∀ (ss : List Slot) (xs : List Term) (a : Nat), ss[a]? = some s → xs[a]? = some x → (∀ c u, c < a → ss[c]? = some u → u.var ≠ v) → ((ss.zip xs).find? fun z => decide (z.1.var = v)).map (·.2) = some x := by
    intro ss
    induction ss with
    | nil => intro xs a h; simp at h
    | cons u ss ih =>
      intro xs a h1 h2 h3
      cases xs with
      | nil => simp at h2
      | cons y xs =>
        rw [List.zip_cons_cons, List.find?_cons]
        cases a with
        | zero =>
          have e1 : u = s := by simpa using h1
          have e2 : y = x := by simpa using h2
          subst e1 e2
          simp [hv]
        | succ a =>
          have hne : u.var ≠ v := h3 0 u (by omega) rfl
          simp only [hne, decide_false]
          exact ih xs a (by simpa using h1) (by simpa using h2) fun c w hc hw => h3 (c + 1) w (by omega) (by simpa using hw)
  unfold termAt
  rw [key _ _ _ hs hx hall]; rfl
theorem take_flat {α β : Type} {f : α → List β} {l : List α} {k : Nat} {r : α} (h : l[k]? = some r) : (l.take (k + 1)).flatMap f = (l.take k).flatMap f ++ f r := by
  rw [take_snoc h, List.flatMap_append]; simp
theorem flat_take_le {α β : Type} {f : α → List β} (l : List α) (k : Nat) : ((l.take k).flatMap f).length ≤ (l.flatMap f).length := by
  have h := List.take_append_drop k l
  have e : l.flatMap f = (l.take k).flatMap f ++ (l.drop k).flatMap f := by rw [← List.flatMap_append, h]
  rw [e, List.length_append]; omega
theorem Rows.next_len {set : List Triple} {ps : List Pat} {vs : List ByteArray} {rows : List (List Term)} (h : Rows set ps vs rows) (p : Pat) : (rows.flatMap (nextRows set vs p)).length = (levels set [[]] (ps ++ [p])).length := (h.step p).count
/-- What is too much behind one part is too much. -/
theorem full_no {set : List Triple} {q : Query} {i : Nat} {p : Pat} (hp : q.parts[i]? = some p) {vs : List ByteArray} {rows : List (List Term)} (h : Rows set (q.parts.take i) vs rows) {k : Nat} (hk : 500 < ((rows.take k).flatMap (nextRows set vs p)).length) : ¬ fullQ set q := by
  have h1 : ¬ AllLe (counts set [[]] (q.parts.take (i + 1))) := fun hall => by
    have := levels_le hall
    rw [take_snoc hp, ← h.next_len p] at this
    have := flat_take_le (f := nextRows set vs p) rows k
    omega
  have h2 := over_append (qs := q.parts.drop (i + 1)) h1
  rwa [List.take_append_drop] at h2
theorem partErr_none {l : List Pat} (h : partsErr l = none) {i : Nat} {p : Pat} (hp : l[i]? = some p) : patErr p = none := by
  have key : ∀ (l : List Pat), partsErr l = none → ∀ p ∈ l, patErr p = none := by
    intro l
    induction l with
    | nil => intro _ p hp; simp at hp
    | cons a r ih =>
      intro h p hp
      unfold partsErr at h
      rw [List.map_cons] at h
      cases ha : patErr a with
      | some e => rw [ha, firstE_some (by rfl)] at h; cases h
      | none =>
        rw [ha, firstE_none (by rfl)] at h
        rcases List.mem_cons.1 hp with rfl | hp
        · exact ha
        · exact ih h p hp
  exact key l h p (List.mem_of_getElem? hp)
section
variable {P : Program} {N : Nat} {D : List Deferred} {l : Env} {w : World}
theorem results_tmp4 {fn : Func} {t u x y : Tmp} (h : fn.results = #[.tmp t, .tmp u, .tmp x, .tmp y]) (tmps : Array Value) (P : Program) (w : World) :
    (results fn tmps).run P w = .ok (.tuple #[tmps.getD t undef, tmps.getD u undef, tmps.getD x undef, tmps.getD y undef]) w := by simp [results, h]
theorem St.ret4 {fn : Func} {t u x y : Tmp} {a b c d : Value} {R : Ending → World → Prop} (hr : fn.results = #[.tmp t, .tmp u, .tmp x, .tmp y]) (ha : look l t = some a) (hb : look l u = some b) (hc : look l x = some c) (hd : look l y = some d) (h : R (.returned (.tuple #[a, b, c, d])) w) :
    St N [] l (bodyPost P fn R .ret) w :=
  fun T _ hs => by
    refine bodyPost_ret (results_tmp4 hr T P w) rfl ?_
    rw [hs _ _ ha, hs _ _ hb, hs _ _ hc, hs _ _ hd]; exact h
end
end Go.Proofs.YtjgcmpondbocfaaGreatDoor
