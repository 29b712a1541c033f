/- A loop over a map: what is left of it, in whatever order it comes. No condition. -/
import Derived.Test.YtjgcmpondbocfaaGreatDoorMaps
import Derived.Maps.Range
namespace Go.Proofs.YtjgcmpondbocfaaGreatDoor
open Go.RowKit Go.MapKept

section
variable {α β : Type} {encK : α → Value} {encV : β → Value} {w : World} {r b : Nat} {ms left : List (α × β)}
/-- Of entries beside their keys and values those that were not seen. -/
def unseen (es : List MapEntry) (ms : List (α × β)) (seen : Array Nat) : List (α × β) := ((es.zip ms).filter fun x => !seen.contains x.1.born).map (·.2)
/-- A loop over the map under way; 'cur': the entry that came last. -/
def IterC (encK : α → Value) (encV : β → Value) (w : World) (r b : Nat) (ms left : List (α × β)) (cur : Option (α × β)) : Prop :=
  r ≠ b ∧ ∃ es clock since seen last, w.heap[b]? = some (.map es clock) ∧ Stamped es clock ∧ es.toList.map (fun e => (e.key, e.val)) = ms.map (fun p => (encK p.1, encV p.2)) ∧ KeysM ms ∧
    w.heap[r]? = some (.mapIter (some b) since seen last) ∧ (∀ x ∈ es.toList, x.born < since) ∧ since ≤ last ∧ since ≤ clock ∧ unseen es.toList ms seen = left ∧
    ∀ p, cur = some p → ∃ (seen' : Array Nat) (e : MapEntry), seen = seen'.push e.born ∧ e ∈ es.toList ∧ e.key = encK p.1 ∧ e.val = encV p.2 ∧ clock = last
abbrev IterB (encK : α → Value) (encV : β → Value) (w : World) (r b : Nat) (ms left : List (α × β)) : Prop := IterC encK encV w r b ms left none
variable {cur : Option (α × β)}
theorem IterC.forget (h : IterC encK encV w r b ms left cur) : IterB encK encV w r b ms left := by
  obtain ⟨h0, es, clock, since, seen, last, h1, h2, h3, h4, h5, h6, h7, h8, h9, _⟩ := h
  exact ⟨h0, es, clock, since, seen, last, h1, h2, h3, h4, h5, h6, h7, h8, h9, fun p hp => by cases hp⟩
theorem IterC.map (h : IterC encK encV w r b ms left cur) : MapB encK encV w b ms := by
  obtain ⟨h0, es, clock, since, seen, last, h1, h2, h3, h4, _⟩ := h
  exact ⟨es, clock, h1, h2, h3, h4⟩
theorem IterC.lt (h : IterC encK encV w r b ms left cur) : r < w.heap.size := by
  obtain ⟨h0, es, clock, since, seen, last, h1, h2, h3, h4, h5, _⟩ := h
  exact (Array.getElem?_eq_some_iff.1 h5).1
theorem IterC.chg {S : Nat → Prop} {w' : World} (h : IterC encK encV w r b ms left cur) (c : Chg S w w') (hb : ¬ S b) (hr : ¬ S r) : IterC encK encV w' r b ms left cur := by
  have l1 := h.map.lt
  have l2 := h.lt
  obtain ⟨h0, es, clock, since, seen, last, h1, h2, h3, h4, h5, rest⟩ := h
  exact ⟨h0, es, clock, since, seen, last, (c.block b l1 hb).trans h1, h2, h3, h4, (c.block r l2 hr).trans h5, rest⟩
theorem IterC.ext {w' : World} (h : IterC encK encV w r b ms left cur) (c : Ext w w') : IterC encK encV w' r b ms left cur := h.chg c (fun x => x) (fun x => x)
theorem unseen_all (es : List MapEntry) (ms : List (α × β)) (h : es.length = ms.length) : unseen es ms #[] = ms := by
  unfold unseen
  rw [List.filter_eq_self.2 (fun x _ => by simp), List.map_snd_zip (by omega)]
theorem pairs_len {es : Array MapEntry} (he : es.toList.map (fun e => (e.key, e.val)) = ms.map (fun p => (encK p.1, encV p.2))) : es.toList.length = ms.length := by
  have := congrArg List.length he
  simpa using this
/-- Where an entry stands, and what stands beside it. -/
theorem pair_at {es : Array MapEntry} (he : es.toList.map (fun e => (e.key, e.val)) = ms.map (fun p => (encK p.1, encV p.2))) {j : Nat} {e : MapEntry} {p : α × β} (h1 : es.toList[j]? = some e) (h2 : ms[j]? = some p) : e.key = encK p.1 ∧ e.val = encV p.2 := by
  have h4 : (es.toList.map (fun e => (e.key, e.val)))[j]? = some (e.key, e.val) := by rw [List.getElem?_map, h1]; rfl
  rw [he, List.getElem?_map, h2] at h4
  simp only [Option.map_some, Option.some.injEq, Prod.mk.injEq] at h4
  exact ⟨h4.1.symm, h4.2.symm⟩
theorem zip_at {es : List MapEntry} {x : MapEntry × (α × β)} (h : x ∈ es.zip ms) : ∃ i : Nat, es[i]? = some x.1 ∧ ms[i]? = some x.2 := by
  obtain ⟨i, hi⟩ := List.getElem?_of_mem h
  rw [List.getElem?_zip_eq_some] at hi
  exact ⟨i, hi⟩
theorem born_key {es : Array MapEntry} {clock : Nat} (hst : Stamped es clock) (hn : KeysM ms) {i j : Nat} {e f : MapEntry} {p q : α × β} (h1 : es.toList[i]? = some e) (h2 : ms[i]? = some p) (h3 : es.toList[j]? = some f) (h4 : ms[j]? = some q) : e.born = f.born ↔ p.1 = q.1 := by
  have a1 : (es.toList.map (·.born))[i]? = some e.born := by rw [List.getElem?_map, h1]; rfl
  have a2 : (es.toList.map (·.born))[j]? = some f.born := by rw [List.getElem?_map, h3]; rfl
  have b1 : (ms.map (·.1))[i]? = some p.1 := by rw [List.getElem?_map, h2]; rfl
  have b2 : (ms.map (·.1))[j]? = some q.1 := by rw [List.getElem?_map, h4]; rfl
  constructor
  · intro e
    have := (List.getElem?_inj (lt_of_get a1) hst.2.1).1 (a1.trans (by rw [e]; exact a2.symm))
    subst this
    rw [h2] at h4; injection h4 with h4; rw [h4]
  · intro e
    have := (List.getElem?_inj (lt_of_get b1) hn).1 (b1.trans (by rw [e]; exact b2.symm))
    subst this
    rw [h1] at h3; injection h3 with h3; rw [h3]
variable {ro : Option Nat} {P : Program} {N : Nat} {D : List Deferred} {l : Env} {Q : Exit → Act → World → Prop} {ops : Array Oper} {rest : List Oper}
variable {d : Option Tmp} {ty : TypeId} {pos : String} {af : Array Edge} {gd : Option (Nat × Bool)}
theorem Eff.range {t kt et : TypeId} {m : Operand} (ht : P.underlying t = some (.map kt et)) (h : MapB encK encV w b ms) (hm : ev l m = some (.map (some b))) :
    Eff P N D l w ⟨d, .range t m, ty, pos, af, gd⟩ fun v w' => ∃ r, v = .pointer (some ⟨r, 0, none⟩) ∧ r = w.heap.size ∧ w'.heap.size = r + 1 ∧ Ext w w' ∧ IterB encK encV w' r b ms ms := fun T _ hs => by
  have hlt := h.lt
  obtain ⟨es, clock, hb, hst, he, hn⟩ := h
  refine .inl ⟨.pointer (some ⟨w.heap.size, 0, none⟩), w.alloc (.mapIter (some b) clock #[] clock), ⟨w.heap.size, rfl, rfl, Array.size_push _, Ext.alloc _ _, by omega, es, clock, clock, #[], clock, ((heap_alloc w _).2 b hlt).trans hb, hst, he, hn, (heap_alloc w _).1, hst.1, Nat.le_refl _, Nat.le_refl _, unseen_all _ _ (pairs_len he), fun p hp => by cases hp⟩, ?_⟩
  simp only [execOp, ev_eval hs hm, Instr.range, Sem.run_bind, run_underlying ht, Result.andThen_ok, getB hb, Sem.run_pure]
  rfl
theorem R.entry {it : Operand} {p : α × β} (h : IterC encK encV w r b ms left (some p)) (hi : ev l it = some (.pointer (some ⟨r, 0, none⟩))) : Runs P N D l w ⟨d, .entry it, ty, pos, af, gd⟩ (.tuple #[encK p.1, encV p.2]) w := fun T _ hs => by
  obtain ⟨h0, es, clock, since, seen, last, hb, hst, he, hn, hr, hold, hsl, hsc, hu, hc⟩ := h
  obtain ⟨seen', e, rfl, hm, hk, hv, rfl⟩ := hc p rfl
  have hrun := run_entry_at (P := P) w r b since seen' es clock e hr hb hm hst.2.1
  simp only [execOp, ev_eval hs hi, Sem.run_bind, hrun, Result.andThen_ok, hk, hv]
  rfl
variable [DecidableEq α]
theorem unseen_push {es : Array MapEntry} {clock : Nat} (hst : Stamped es clock) (hn : KeysM ms) {seen : Array Nat} {j : Nat} {e : MapEntry} {p : α × β} (h1 : es.toList[j]? = some e) (h2 : ms[j]? = some p) :
    unseen es.toList ms (seen.push e.born) = delM (unseen es.toList ms seen) p.1 := by
  unfold unseen delM
  rw [List.filter_map, List.filter_filter]
  congr 1
  apply List.filter_congr
  intro x hx
  obtain ⟨i, h3, h4⟩ := zip_at hx
  have := born_key hst hn h3 h4 h1 h2
  simp only [Function.comp, Array.contains_push]
  by_cases hb : x.1.born = e.born
  · simp [hb, this.1 hb]
  · have hk : ¬ x.2.1 = p.1 := fun h => hb (this.2 h)
    simp [hb, hk]

theorem Eff.next {it : Operand} (h : IterB encK encV w r b ms left) (hi : ev l it = some (.pointer (some ⟨r, 0, none⟩))) :
    Eff P N D l w ⟨d, .next it false, ty, pos, af, gd⟩ fun v w' => (left = [] ∧ v = .tuple #[.bool false] ∧ w' = w) ∨
      ∃ p, p ∈ left ∧ v = .tuple #[.bool true, encK p.1, encV p.2] ∧ IterC encK encV w' r b ms (delM left p.1) (some p) ∧ Chg (fun k => k = r) w w' ∧ w'.heap.size = w.heap.size := fun T _ hs => by
  obtain ⟨h0, es, clock, since, seen, last, hb, hst, he, hn, hr, hold, hsl, hsc, hu, _⟩ := h
  have hzip : ∀ e, e ∈ (leftOf es seen).toList → ∃ (j : Nat) (p : α × β), es.toList[j]? = some e ∧ ms[j]? = some p ∧ seen.contains e.born = false := by
    intro e hm
    unfold leftOf at hm
    have hm' : e ∈ es.toList ∧ seen.contains e.born = false := by simpa using hm
    obtain ⟨j, hj⟩ := List.getElem?_of_mem hm'.1
    obtain ⟨p, hp⟩ := get_of_lt (xs := ms) (k := j) (by rw [← pairs_len he]; exact lt_of_get hj)
    exact ⟨j, p, hj, hp, hm'.2⟩
  rcases run_next_at (P := P) w ty r b since last seen es clock hr hb hold hsl with ⟨hz, hrun⟩ | ⟨e, hm, w1, hw, hrun⟩
  · refine .inl ⟨_, w, .inl ⟨?_, rfl, rfl⟩, ?_⟩
    · rw [← hu]
      unfold unseen
      rw [List.map_eq_nil_iff, List.filter_eq_nil_iff]
      intro x hx hc
      obtain ⟨i, h3, h4⟩ := zip_at hx
      have : x.1 ∈ (leftOf es seen).toList := by
        unfold leftOf
        have := List.mem_of_getElem? h3
        simp at hc this ⊢
        exact ⟨this, hc⟩
      have hpos := List.length_pos_of_mem this
      simp at hpos
      omega
    · simp only [execOp, ev_eval hs hi, Sem.run_bind, hrun, Result.andThen_ok]
      rfl
  · obtain ⟨j, p, hj, hp, hns⟩ := hzip e hm
    obtain ⟨hk, hv⟩ := pair_at he hj hp
    have hw1 : w1.heap = w.heap ∧ w1.os = w.os ∧ w1.tape = w.tape ∧ w1.output = w.output := by rcases hw with rfl | rfl <;> exact ⟨rfl, rfl, rfl, rfl⟩
    have hr1 : w1.heap[r]? = some (.mapIter (some b) since seen last) := by rw [hw1.1]; exact hr
    refine .inl ⟨_, Go.ChangeMaps.setBlock w1 r (.mapIter (some b) since (seen.push e.born) clock), .inr ⟨p, ?_, by rw [← hk, ← hv], ⟨h0, es, clock, since, seen.push e.born, clock, ?_, hst, he, hn, (heap_set hr1).1, hold, hsc, hsc, ?_, fun q hq => ?_⟩, ?_, ?_⟩, ?_⟩
    · rw [← hu]
      unfold unseen
      rw [List.mem_map]
      refine ⟨(e, p), List.mem_filter.2 ⟨?_, by simpa using hns⟩, rfl⟩
      have : (es.toList.zip ms)[j]? = some (e, p) := List.getElem?_zip_eq_some.2 ⟨hj, hp⟩
      exact List.mem_of_getElem? this
    · show (w1.heap.setIfInBounds r _)[b]? = _
      rw [(heap_set hr1).2 b (Ne.symm h0), hw1.1]; exact hb
    · rw [unseen_push hst hn hj hp, hu]
    · injection hq with hq
      subst hq
      exact ⟨seen, e, rfl, List.mem_of_getElem? hj, hk, hv, rfl⟩
    · exact ⟨hw1.2.1, hw1.2.2.1, hw1.2.2.2, by simp [Go.ChangeMaps.setBlock, hw1.1], fun k hk hne => by
        show (w1.heap.setIfInBounds r _)[k]? = _
        rw [(heap_set hr1).2 k hne, hw1.1], by rcases hw with rfl | rfl; exact Nat.le_refl _; exact Nat.le_succ _⟩
    · simp [Go.ChangeMaps.setBlock, hw1.1]
    · simp only [execOp, ev_eval hs hi, Sem.run_bind, hrun, Result.andThen_ok]
      rfl

theorem zip_erase {γ δ : Type} : ∀ (l : List γ) (m : List δ) (j : Nat), (l.eraseIdx j).zip (m.eraseIdx j) = (l.zip m).eraseIdx j
  | [], _, _ => by simp
  | _ :: _, [], _ => by simp
  | _ :: _, _ :: _, 0 => by simp
  | _ :: l, _ :: m, j + 1 => by simp [zip_erase l m j]
theorem unseen_erase {es : List MapEntry} (hl : es.length = ms.length) (hn : KeysM ms) {seen : Array Nat} {j : Nat} {a : α} {v : β} (h : ms[j]? = some (a, v)) : unseen (es.eraseIdx j) (ms.eraseIdx j) seen = delM (unseen es ms seen) a := by
  have key : ∀ (es : List MapEntry) (ms : List (α × β)) (j : Nat), es.length = ms.length → KeysM ms → ms[j]? = some (a, v) → (es.zip ms).eraseIdx j = (es.zip ms).filter fun x => !decide (x.2.1 = a) := by
    intro es
    induction es with
    | nil => intro ms j hl _ h; cases ms with
      | nil => simp at h
      | cons _ _ => simp at hl
    | cons e es ih =>
      intro ms j hl hn h
      cases ms with
      | nil => simp at hl
      | cons q ms =>
        unfold KeysM at hn
        rw [List.map_cons, List.nodup_cons] at hn
        cases j with
        | zero =>
          have : q = (a, v) := by simpa using h
          subst this
          rw [List.zip_cons_cons, List.eraseIdx_zero, List.tail_cons, List.filter_cons]
          simp only [decide_true, Bool.not_true, Bool.false_eq_true, if_false]
          symm
          rw [List.filter_eq_self]
          intro x hx
          obtain ⟨i, _, h4⟩ := zip_at hx
          have : x.2.1 ≠ a := fun e => hn.1 (List.mem_map.2 ⟨x.2, List.mem_of_getElem? h4, e⟩)
          simp [this]
        | succ j =>
          have h' : ms[j]? = some (a, v) := by simpa using h
          have : q.1 ≠ a := fun e => hn.1 (List.mem_map.2 ⟨(a, v), List.mem_of_getElem? h', e.symm⟩)
          rw [List.zip_cons_cons, List.eraseIdx_cons_succ, List.filter_cons, ih ms j (by simpa using hl) hn.2 h']
          simp [this]
  unfold unseen delM
  rw [zip_erase, key es ms j hl hn h, List.filter_map, List.filter_filter, List.filter_filter]
  congr 1
  apply List.filter_congr
  intro x _
  simp only [Function.comp]
  rw [Bool.and_comm]
theorem delM_unseen_none {es : List MapEntry} {seen : Array Nat} {a : α} (h : getM ms a = none) : delM (unseen es ms seen) a = unseen es ms seen := by
  unfold delM unseen
  rw [List.filter_eq_self]
  intro p hp
  obtain ⟨x, hx, rfl⟩ := List.mem_map.1 hp
  obtain ⟨i, _, h4⟩ := zip_at (List.mem_filter.1 hx).1
  have := getM_none.1 h x.2 (List.mem_of_getElem? h4)
  simp [this]
/-- 'delete' while a loop over the map is under way. -/
theorem Eff.deleteI {t kt et : TypeId} {kt' : TypeId} {m k : Operand} {a : α} {cur : Option (α × β)} (K : KEnc P kt encK) (ht : P.underlying t = some (.map kt et)) (h : IterC encK encV w r b ms left cur) (hm : ev l m = some (.map (some b))) (hk : ev l k = some (encK a)) :
    Eff P N D l w ⟨d, .call { callee := .builtin .delete, args := #[m, k], argTypes := #[t, kt'] }, ty, pos, af, gd⟩ fun u w' => u = .tuple #[] ∧ IterB encK encV w' r b (delM ms a) (delM left a) ∧ Chg (fun k => k = b) w w' ∧ w'.heap.size = w.heap.size := fun T _ hs => by
  obtain ⟨h0, es, clock, since, seen, last, hb, hst, he, hn, hr, hold, hsl, hsc, hu, _⟩ := h
  obtain ⟨hck, hf⟩ := find_spec (P := P) K he hn a w
  rcases hf with ⟨hf, hg, hno⟩ | ⟨j, e, u, hf, hj, hjk, hjv, hms, hg⟩
  · refine .inl ⟨_, { w with heap := w.heap.setIfInBounds b (.map es clock) }, ⟨rfl, ⟨h0, es, clock, since, seen, last, (heap_set hb).1, hst, by rw [delM_none hg]; exact he, hn.del a, ((heap_set hb).2 r h0).trans hr, hold, hsl, hsc, by rw [delM_none hg, ← hu, delM_unseen_none hg], fun p hp => by cases hp⟩, Chg.setMap hb _, by simp⟩, ?_⟩
    simp only [execOp, resolve, invoke, builtin, Sem.run_bind, Sem.run_pure, Result.andThen_ok, List.map_toArray, List.map_cons, List.map_nil, ev_eval hs hm, ev_eval hs hk]
    simp [Builtin.delete_, run_underlying ht, getB hb, hck, hf, setB _ hb]
  · have hel : (es.eraseIdxIfInBounds j).toList = es.toList.eraseIdx j := by
      unfold Array.eraseIdxIfInBounds
      rw [dif_pos (by simpa using lt_of_get hj)]
      simp
    refine .inl ⟨_, { w with heap := w.heap.setIfInBounds b (.map (es.eraseIdxIfInBounds j) clock) }, ⟨rfl, ⟨h0, _, clock, since, seen, last, (heap_set hb).1, stamped_erase hst j, ?_, hn.del a, ((heap_set hb).2 r h0).trans hr, fun x hx => hold x ?_, hsl, hsc, ?_, fun p hp => by cases hp⟩, Chg.setMap hb _, by simp⟩, ?_⟩
    · rw [hel, erase_map, he, ← erase_map, erase_at hn hms]
    · rw [hel] at hx
      exact (List.eraseIdx_sublist _ _).subset hx
    · rw [hel, ← erase_at hn hms, unseen_erase (pairs_len he) hn hms, hu]
    · simp only [execOp, resolve, invoke, builtin, Sem.run_bind, Sem.run_pure, Result.andThen_ok, List.map_toArray, List.map_cons, List.map_nil, ev_eval hs hm, ev_eval hs hk]
      simp [Builtin.delete_, run_underlying ht, getB hb, hck, hf, setB _ hb]

/-! ### what maps.DeleteFunc leaves -/
/-- The entries that are still to come, and of the others those that stay. -/
def stayM (ms left : List (α × β)) (f : α × β → Bool) : List (α × β) := ms.filter fun q => (getM left q.1).isSome || !f q
theorem stayM_start (ms : List (α × β)) (f : α × β → Bool) : stayM ms ms f = ms := by
  unfold stayM
  rw [List.filter_eq_self]
  intro q hq
  have : (getM ms q.1).isSome = true := by
    cases h : getM ms q.1 with
    | some _ => rfl
    | none => exact absurd rfl (getM_none.1 h q hq)
  rw [this]; rfl
theorem stayM_end (ms : List (α × β)) (f : α × β → Bool) : stayM ms [] f = ms.filter fun q => !f q := by
  unfold stayM
  apply List.filter_congr
  intro q _
  simp [getM_nil]
theorem keys_eq {ms : List (α × β)} (hn : KeysM ms) {p q : α × β} (hp : p ∈ ms) (hq : q ∈ ms) (h : q.1 = p.1) : q = p := by
  have h1 := getM_mem hn (k := p.1) (v := p.2) hp
  have h2 := getM_mem hn (k := q.1) (v := q.2) hq
  rw [h, h1] at h2
  injection h2 with h2
  exact Prod.ext h h2.symm
theorem stayM_gone {ms left : List (α × β)} (hn : KeysM ms) {f : α × β → Bool} {p : α × β} (hp : p ∈ ms) (h : f p = true) : delM (stayM ms left f) p.1 = stayM ms (delM left p.1) f := by
  unfold stayM
  unfold delM
  rw [List.filter_filter]
  apply List.filter_congr
  intro q hq
  have hd := getM_del left p.1 q.1
  unfold delM at hd
  rw [hd]
  by_cases e : q.1 = p.1
  · have := keys_eq hn hp hq e
    subst this
    simp [h]
  · simp [e]
theorem stayM_kept {ms left : List (α × β)} (hn : KeysM ms) {f : α × β → Bool} {p : α × β} (hp : p ∈ ms) (h : f p = false) : stayM ms left f = stayM ms (delM left p.1) f := by
  unfold stayM
  apply List.filter_congr
  intro q hq
  rw [getM_del]
  by_cases e : q.1 = p.1
  · have := keys_eq hn hp hq e
    subst this
    simp [h]
  · simp [e]
theorem delM_sub {left ms : List (α × β)} {k : α} (h : ∀ x ∈ left, x ∈ ms) : ∀ x ∈ delM left k, x ∈ ms := fun x hx => h x (List.mem_filter.1 hx).1
theorem delM_delM (ms : List (α × β)) (k : α) : delM (delM ms k) k = delM ms k := by
  unfold delM
  rw [List.filter_filter]
  apply List.filter_congr
  intro q _
  simp
theorem delM_lt {left : List (α × β)} {p : α × β} (h : p ∈ left) : (delM left p.1).length < left.length := by
  unfold delM
  rw [List.length_filter_lt_length_iff_exists]
  exact ⟨p, h, by simp⟩
end
end Go.Proofs.YtjgcmpondbocfaaGreatDoor
