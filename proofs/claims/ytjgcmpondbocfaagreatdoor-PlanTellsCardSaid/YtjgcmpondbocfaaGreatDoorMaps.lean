/- Maps: a block that holds a map, read as a list of keys and values in the order in which they came. No condition. -/
import Derived.Test.YtjgcmpondbocfaaGreatDoorMore
import Derived.MapKept
namespace Go.Proofs.YtjgcmpondbocfaaGreatDoor
open Go.RowKit Go.MapKept

/-! ### lists of keys and values -/
section
variable {α β : Type} [DecidableEq α]
def getM (ms : List (α × β)) (k : α) : Option β := (ms.find? fun p => decide (p.1 = k)).map (·.2)
def putM (ms : List (α × β)) (k : α) (v : β) : List (α × β) := if ms.any (fun p => decide (p.1 = k)) then ms.map fun p => if p.1 = k then (k, v) else p else ms ++ [(k, v)]
def KeysM (ms : List (α × β)) : Prop := (ms.map (·.1)).Nodup
theorem getM_nil (k : α) : getM ([] : List (α × β)) k = none := rfl
theorem getM_cons (p : α × β) (ms : List (α × β)) (k : α) : getM (p :: ms) k = if p.1 = k then some p.2 else getM ms k := by
  unfold getM
  rw [List.find?_cons]
  by_cases h : p.1 = k <;> simp [h]
theorem getM_some {ms : List (α × β)} {k : α} {v : β} (h : getM ms k = some v) : (k, v) ∈ ms := by
  unfold getM at h
  rw [Option.map_eq_some_iff] at h
  obtain ⟨p, hp, rfl⟩ := h
  have h1 := List.mem_of_find?_eq_some hp
  have h2 := List.find?_some hp
  have : p.1 = k := of_decide_eq_true h2
  subst this
  exact h1
theorem getM_none {ms : List (α × β)} {k : α} : getM ms k = none ↔ ∀ p ∈ ms, p.1 ≠ k := by
  unfold getM
  rw [Option.map_eq_none_iff, List.find?_eq_none]
  constructor
  · intro h p hp e; exact h p hp (decide_eq_true e)
  · intro h p hp e; exact h p hp (of_decide_eq_true e)
theorem getM_mem {ms : List (α × β)} (hn : KeysM ms) {k : α} {v : β} (h : (k, v) ∈ ms) : getM ms k = some v := by
  induction ms with
  | nil => simp at h
  | cons p ms ih =>
    unfold KeysM at hn
    rw [List.map_cons, List.nodup_cons] at hn
    rw [getM_cons]
    rcases List.mem_cons.1 h with rfl | h
    · simp
    · rw [if_neg, ih hn.2 h]
      intro e
      exact hn.1 (List.mem_map.2 ⟨(k, v), h, e.symm⟩)
theorem getM_append (a b : List (α × β)) (k : α) : getM (a ++ b) k = match getM a k with | some v => some v | none => getM b k := by
  induction a with
  | nil => rfl
  | cons p a ih =>
    rw [List.cons_append, getM_cons, getM_cons, ih]
    split
    · rfl
    · rfl
theorem any_getM {ms : List (α × β)} {k : α} : ms.any (fun p => decide (p.1 = k)) = (getM ms k).isSome := by
  induction ms with
  | nil => rfl
  | cons p ms ih =>
    rw [List.any_cons, getM_cons, ih]
    by_cases h : p.1 = k <;> simp [h]
theorem putM_new {ms : List (α × β)} {k : α} {v : β} (h : getM ms k = none) : putM ms k v = ms ++ [(k, v)] := by
  unfold putM; rw [any_getM, h]; rfl
theorem putM_old {ms : List (α × β)} {k : α} {v u : β} (h : getM ms k = some u) : putM ms k v = ms.map fun p => if p.1 = k then (k, v) else p := by
  unfold putM; rw [any_getM, h]; rfl
theorem putM_keys (ms : List (α × β)) (k : α) (v u : β) (h : getM ms k = some u) : (putM ms k v).map (·.1) = ms.map (·.1) := by
  rw [putM_old h, List.map_map]
  apply List.map_congr_left
  intro p _
  simp only [Function.comp]
  split
  · rename_i e; exact e.symm
  · rfl
theorem KeysM.put {ms : List (α × β)} (hn : KeysM ms) (k : α) (v : β) : KeysM (putM ms k v) := by
  unfold KeysM at hn ⊢
  cases h : getM ms k with
  | none =>
    rw [putM_new h, List.map_append, List.nodup_append]
    refine ⟨hn, by simp, fun a ha b hb => ?_⟩
    obtain ⟨p, hp, rfl⟩ := List.mem_map.1 ha
    have := getM_none.1 h p hp
    simp at hb
    subst hb
    exact this
  | some u => rw [putM_keys ms k v u h]; exact hn
theorem getM_put (ms : List (α × β)) (k : α) (v : β) (j : α) : getM (putM ms k v) j = if j = k then some v else getM ms j := by
  cases h : getM ms k with
  | none =>
    rw [putM_new h, getM_append]
    by_cases e : j = k
    · subst e; rw [h, if_pos rfl, getM_cons, if_pos rfl]
    · rw [if_neg e]
      cases getM ms j with
      | some _ => rfl
      | none => simp only [getM_cons, getM_nil]; rw [if_neg (fun h => e h.symm)]
  | some u =>
    rw [putM_old h]
    have key : ∀ ms : List (α × β), getM (ms.map fun p => if p.1 = k then (k, v) else p) j = if j = k then (getM ms k).map (fun _ => v) else getM ms j := by
      intro ms
      induction ms with
      | nil => simp [getM_nil]
      | cons p ms ih =>
        rw [List.map_cons, getM_cons, ih, getM_cons, getM_cons]
        by_cases e : p.1 = k
        · rw [if_pos e, if_pos e]
          by_cases ej : j = k
          · subst ej; simp
          · rw [if_neg (fun h => ej h.symm), if_neg ej, if_neg ej, if_neg (fun h => ej (by rw [← h, e]))]
        · rw [if_neg e, if_neg e]
          by_cases ej : j = k
          · subst ej; rw [if_pos rfl, if_pos rfl, if_neg e]
          · rw [if_neg ej, if_neg ej]
    rw [key, h]
    rfl
/-- Where a key stands. -/
theorem getM_at {ms : List (α × β)} (hn : KeysM ms) {j : Nat} {k : α} {v : β} (h : ms[j]? = some (k, v)) : getM ms k = some v := getM_mem hn (List.mem_of_getElem? h)
theorem set_at {ms : List (α × β)} (hn : KeysM ms) {j : Nat} {k : α} {u v : β} (h : ms[j]? = some (k, u)) : ms.set j (k, v) = putM ms k v := by
  rw [putM_old (getM_at hn h)]
  apply List.ext_getElem?
  intro i
  rw [List.getElem?_map]
  by_cases e : j = i
  · subst e
    rw [List.getElem?_set_self (lt_of_get h), h]
    simp
  · rw [List.getElem?_set_ne e]
    cases hi : ms[i]? with
    | none => rfl
    | some p =>
      simp only [Option.map_some]
      rw [if_neg]
      intro hp
      unfold KeysM at hn
      have h1 : (ms.map (·.1))[j]? = some k := by rw [List.getElem?_map, h]; rfl
      have h2 : (ms.map (·.1))[i]? = some k := by rw [List.getElem?_map, hi, ← hp]; rfl
      exact e ((List.getElem?_inj (lt_of_get h1) hn).1 (h1.trans h2.symm))
end

/-! ### a block that holds a map -/
/-- Keys whose likeness is told without a question. -/
structure KEnc (P : Program) (kt : TypeId) {α : Type} (encK : α → Value) : Prop where
  check : ∀ a e w, (Instr.checkKey e 10000 kt (encK a)).run P w = .ok () w
  find : ∀ a (es : List MapEntry) w, (∀ x ∈ es, ∃ b, x.key = encK b) → ((Instr.findKey kt (encK a) es).run P w = .ok none w ∧ ∀ x ∈ es, x.key ≠ encK a) ∨ ∃ j e, (Instr.findKey kt (encK a) es).run P w = .ok (some (j, e.val)) w ∧ es[j]? = some e ∧ e.key = encK a
  inj : ∀ a b, encK a = encK b → a = b
  same : ∀ a, Instr.sameBits 10000 (encK a) (encK a) = true
theorem KEnc.plain {P : Program} {kt : TypeId} {α : Type} {encK : α → Value} {d : TypeDesc} (h : P.underlying kt = some d) (hk : ∀ a, IsKey d (encK a)) (inj : ∀ a b, encK a = encK b → a = b) (same : ∀ a, Instr.sameBits 10000 (encK a) (encK a) = true) : KEnc P kt encK :=
  ⟨fun a e w => run_checkKey h (hk a) e 9999, fun a es w hes => by
    have hkeys : ∀ x ∈ es, IsKey d x.key := fun x hx => by obtain ⟨b, hb⟩ := hes x hx; rw [hb]; exact hk b
    rcases findNow_spec (hk a) es 0 hkeys with ⟨h1, h2⟩ | ⟨j, e, h1, h2, h3⟩
    · exact .inl ⟨run_findKey h h1, h2⟩
    · refine .inr ⟨j, e, ?_, h2, h3⟩
      have := run_findKey (P := P) (w := w) h h1
      rwa [Nat.zero_add] at this, inj, same⟩
theorem KEnc.str {P : Program} {kt : TypeId} (h : P.underlying kt = some .string) : KEnc P kt (fun s : ByteArray => Value.string s) :=
  KEnc.plain h (fun _ => trivial) (fun a b e => by injection e) (fun a => by simp [Instr.sameBits, bytes_beq])
theorem KEnc.int {P : Program} {kt : TypeId} {k : IntKind} (h : P.underlying kt = some (.int k)) : KEnc P kt (fun n : Int => Value.int k n) :=
  KEnc.plain h (fun _ => rfl) (fun a b e => by injection e) (fun a => by cases k <;> simp [Instr.sameBits])
theorem findAsking_spec {P : Program} {kt : TypeId} {α : Type} [DecidableEq α] {encK : α → Value} (hq : ∀ a b w, (Op.equal kt (encK a) (encK b)).run P w = .ok (decide (a = b)) w) (inj : ∀ a b, encK a = encK b → a = b) (a : α) (w : World) :
    ∀ (es : List MapEntry) (i : Nat), (∀ x ∈ es, ∃ b, x.key = encK b) → ((Instr.findAsking kt (encK a) es i).run P w = .ok none w ∧ ∀ x ∈ es, x.key ≠ encK a) ∨ ∃ j e, (Instr.findAsking kt (encK a) es i).run P w = .ok (some (i + j, e.val)) w ∧ es[j]? = some e ∧ e.key = encK a
  | [], i, _ => .inl ⟨rfl, by simp⟩
  | x :: r, i, h => by
    obtain ⟨b, hb⟩ := h x List.mem_cons_self
    have hrun : (Instr.findAsking kt (encK a) (x :: r) i).run P w = if a = b then .ok (some (i, x.val)) w else (Instr.findAsking kt (encK a) r (i + 1)).run P w := by
      rw [Instr.findAsking]
      simp only [Sem.run_bind, hb, hq, Result.andThen_ok]
      by_cases e : a = b
      · simp [e, Sem.run_pure]
      · simp [e]
    by_cases e : a = b
    · refine .inr ⟨0, x, by rw [hrun, if_pos e, Nat.add_zero], rfl, by rw [hb, e]⟩
    · rw [hrun, if_neg e]
      rcases findAsking_spec hq inj a w r (i + 1) (fun y hy => h y (List.mem_cons_of_mem _ hy)) with ⟨h1, h2⟩ | ⟨j, y, h1, h2, h3⟩
      · refine .inl ⟨h1, fun y hy => ?_⟩
        rcases List.mem_cons.1 hy with rfl | hy
        · rw [hb]; exact fun he => e (inj _ _ he).symm
        · exact h2 y hy
      · exact .inr ⟨j + 1, y, by rw [h1]; congr 3; omega, h2, h3⟩
/-- Keys that are structs. -/
theorem KEnc.agg {P : Program} {kt : TypeId} {α : Type} [DecidableEq α] {enc : α → List Value} {fs : Array Field} (ht : P.underlying kt = some (.struct fs)) (hq : ∀ a b w, (Op.equalIn 10000 kt (.agg (enc a).toArray) (.agg (enc b).toArray)).run P w = .ok (decide (a = b)) w)
    (hc : ∀ a e w, (Instr.checkKey e 10000 kt (.agg (enc a).toArray)).run P w = .ok () w) (inj : ∀ a b, enc a = enc b → a = b) (same : ∀ a, Instr.sameBits 10000 (.agg (enc a).toArray) (.agg (enc a).toArray) = true) : KEnc P kt (fun a => Value.agg (enc a).toArray) :=
  ⟨hc, fun a es w hes => by
    have hinj : ∀ a b : α, Value.agg (enc a).toArray = Value.agg (enc b).toArray → a = b := fun a b e => by
      injection e with e
      exact inj a b (by simpa using congrArg Array.toList e)
    have hs := findAsking_spec (P := P) (kt := kt) (encK := fun a => Value.agg (enc a).toArray) (fun a b w => hq a b w) hinj a w es 0 hes
    have hf : (Instr.findKey kt (.agg (enc a).toArray) es).run P w = (Instr.findAsking kt (.agg (enc a).toArray) es 0).run P w := by
      simp only [Instr.findKey, Sem.run_bind, run_underlying ht, Result.andThen_ok]
      cases es with
      | nil => rfl
      | cons x r => rfl
    rw [hf]
    rcases hs with h | ⟨j, e, h1, h2, h3⟩
    · exact .inl h
    · exact .inr ⟨j, e, by rw [h1, Nat.zero_add], h2, h3⟩, fun a b e => inj a b (by injection e with e; simpa using congrArg Array.toList e), same⟩

section
variable {α β : Type}
def MapB (encK : α → Value) (encV : β → Value) (w : World) (b : Nat) (ms : List (α × β)) : Prop :=
  ∃ es clock, w.heap[b]? = some (.map es clock) ∧ Stamped es clock ∧ es.toList.map (fun e => (e.key, e.val)) = ms.map (fun p => (encK p.1, encV p.2)) ∧ KeysM ms
variable {encK : α → Value} {encV : β → Value} {w : World} {b : Nat} {ms : List (α × β)}
theorem MapB.lt (h : MapB encK encV w b ms) : b < w.heap.size := by
  obtain ⟨es, clock, hb, _⟩ := h
  exact (Array.getElem?_eq_some_iff.1 hb).1
theorem MapB.keys (h : MapB encK encV w b ms) : KeysM ms := by
  obtain ⟨es, clock, hb, _, _, hk⟩ := h
  exact hk
theorem MapB.chg {S : Nat → Prop} {w' : World} (c : Chg S w w') (h : MapB encK encV w b ms) (hs : ¬ S b) : MapB encK encV w' b ms := by
  have hlt := h.lt
  obtain ⟨es, clock, hb, rest⟩ := h
  exact ⟨es, clock, (c.block b hlt hs).trans hb, rest⟩
theorem MapB.ext {w' : World} (c : Ext w w') (h : MapB encK encV w b ms) : MapB encK encV w' b ms := MapB.chg c h (fun x => x)
theorem MapB.new (w : World) : MapB encK encV (w.alloc (.map #[] 0)) w.heap.size ([] : List (α × β)) := ⟨#[], 0, (heap_alloc w _).1, stamped_empty 0, rfl, List.nodup_nil⟩

variable {ro : Option Nat} {P : Program} {N : Nat} {D : List Deferred} {l : Env} {Q : Exit → Act → World → Prop} {ops : Array Oper} {rest : List Oper}
variable {d : Option Tmp} {ty : TypeId} {pos : String} {af : Array Edge} {gd : Option (Nat × Bool)}
theorem getB {P : Program} {w : World} {r : Nat} {es : Array MapEntry} {clock : Nat} (hb : w.heap[r]? = some (.map es clock)) : (getObj r).run P w = .ok (.map es clock) w := by
  simp [getObj, Sem.run, hb]
theorem setB {P : Program} {w : World} {r : Nat} {es : Array MapEntry} {clock : Nat} (o : Obj) (hb : w.heap[r]? = some (.map es clock)) : (setObj r o).run P w = .ok () { w with heap := w.heap.setIfInBounds r o } := by
  simp [setObj, Sem.run, hb]
theorem MapB.size (h : MapB encK encV w b ms) {es : Array MapEntry} {clock : Nat} (hb : w.heap[b]? = some (.map es clock)) : es.size = ms.length := by
  obtain ⟨es', clock', hb', _, he, _⟩ := h
  rw [hb] at hb'
  injection hb' with hb'
  injection hb' with h1 h2
  subst h1
  have := congrArg List.length he
  simpa using this
theorem Eff.makeMap {t : TypeId} (encK : α → Value) (encV : β → Value) : Eff P N D l w ⟨d, .makeMap t none, ty, pos, af, gd⟩ fun v w' => ∃ b, v = .map (some b) ∧ b = w.heap.size ∧ w'.heap.size = b + 1 ∧ Ext w w' ∧ MapB encK encV w' b ([] : List (α × β)) := fun T _ _ =>
  .inl ⟨.map (some w.heap.size), w.alloc (.map #[] 0), ⟨w.heap.size, rfl, rfl, Array.size_push _, Ext.alloc _ _, MapB.new w⟩, by
    simp only [execOp, Option.map_none, Sem.run_bind]
    rfl⟩

variable [DecidableEq α]
/-- Where a key stands in the block. -/
theorem find_spec {kt : TypeId} (K : KEnc P kt encK) {es : Array MapEntry} (he : es.toList.map (fun e => (e.key, e.val)) = ms.map (fun p => (encK p.1, encV p.2))) (hn : KeysM ms) (a : α) (w : World) :
    (∀ e, (Instr.checkKey e 10000 kt (encK a)).run P w = .ok () w) ∧
    (((Instr.findKey kt (encK a) es.toList).run P w = .ok none w ∧ getM ms a = none ∧ ∀ x ∈ es.toList, x.key ≠ encK a) ∨
    ∃ j e v, (Instr.findKey kt (encK a) es.toList).run P w = .ok (some (j, encV v)) w ∧ es.toList[j]? = some e ∧ e.key = encK a ∧ e.val = encV v ∧ ms[j]? = some (a, v) ∧ getM ms a = some v) := by
  refine ⟨fun e => K.check a e w, ?_⟩
  have hkeys : ∀ x ∈ es.toList, ∃ b, x.key = encK b := by
    intro x hx
    have h1 : (x.key, x.val) ∈ ms.map (fun p => (encK p.1, encV p.2)) := by rw [← he]; exact List.mem_map.2 ⟨x, hx, rfl⟩
    obtain ⟨p, _, hp⟩ := List.mem_map.1 h1
    simp only [Prod.mk.injEq] at hp
    exact ⟨p.1, hp.1.symm⟩
  rcases K.find a es.toList w hkeys with ⟨h1, h2⟩ | ⟨j, e, h1, h2, h3⟩
  · refine .inl ⟨h1, getM_none.2 fun p hp e => ?_, h2⟩
    have h4 : (encK p.1, encV p.2) ∈ es.toList.map (fun e => (e.key, e.val)) := by rw [he]; exact List.mem_map.2 ⟨p, hp, rfl⟩
    obtain ⟨x, hx, hxe⟩ := List.mem_map.1 h4
    simp only [Prod.mk.injEq] at hxe
    exact h2 x hx (by rw [hxe.1, e])
  · have h4 : (es.toList.map (fun e => (e.key, e.val)))[j]? = some (e.key, e.val) := by rw [List.getElem?_map, h2]; rfl
    rw [he, List.getElem?_map, Option.map_eq_some_iff] at h4
    obtain ⟨p, hp, hpe⟩ := h4
    simp only [Prod.mk.injEq] at hpe
    have hpa : p.1 = a := K.inj _ _ (hpe.1.trans h3)
    obtain ⟨pk, pv⟩ := p
    dsimp only at hpa hpe
    subst hpa
    refine .inr ⟨j, e, pv, ?_, h2, h3, hpe.2.symm, hp, getM_at hn hp⟩
    rw [h1, ← hpe.2]


theorem run_lookup {t kt et : TypeId} {z : Value} (K : KEnc P kt encK) (ht : P.underlying t = some (.map kt et)) (hz : ∀ w, (zeroValue et).run P w = .ok z w) (h : MapB encK encV w b ms) (a : α) (ok : Bool) :
    (Instr.lookup t (.map (some b)) (encK a) ok).run P w = .ok (if ok then .tuple #[((getM ms a).map encV).getD z, .bool (getM ms a).isSome] else ((getM ms a).map encV).getD z) w := by
  obtain ⟨es, clock, hb, hs, he, hn⟩ := h
  obtain ⟨hck, hf⟩ := find_spec (P := P) K he hn a w
  rcases hf with ⟨hf, hg, _⟩ | ⟨j, e, v, hf, _, _, _, _, hg⟩
  · simp only [Instr.lookup, Sem.run_bind, run_underlying ht, Result.andThen_ok, getB hb, Sem.run_pure, hck, hf, hz, hg]
    cases ok <;> rfl
  · simp only [Instr.lookup, Sem.run_bind, run_underlying ht, Result.andThen_ok, getB hb, Sem.run_pure, hck, hf, hg]
    cases ok <;> rfl
theorem R.lookup {t kt et : TypeId} {z : β} {m k : Operand} {a : α} (K : KEnc P kt encK) (ht : P.underlying t = some (.map kt et)) (hz : ∀ w, (zeroValue et).run P w = .ok (encV z) w) (h : MapB encK encV w b ms) (hm : ev l m = some (.map (some b))) (hk : ev l k = some (encK a)) :
    Runs P N D l w ⟨d, .lookup t m k false, ty, pos, af, gd⟩ (encV ((getM ms a).getD z)) w := fun T _ hs => by
  simp only [execOp, ev_eval hs hm, ev_eval hs hk, Sem.run_bind, run_lookup K ht hz h a, Result.andThen_ok]
  cases getM ms a <;> rfl
theorem R.lookupOk {t kt et : TypeId} {z : β} {m k : Operand} {a : α} (K : KEnc P kt encK) (ht : P.underlying t = some (.map kt et)) (hz : ∀ w, (zeroValue et).run P w = .ok (encV z) w) (h : MapB encK encV w b ms) (hm : ev l m = some (.map (some b))) (hk : ev l k = some (encK a)) :
    Runs P N D l w ⟨d, .lookup t m k true, ty, pos, af, gd⟩ (.tuple #[encV ((getM ms a).getD z), .bool (getM ms a).isSome]) w := fun T _ hs => by
  simp only [execOp, ev_eval hs hm, ev_eval hs hk, Sem.run_bind, run_lookup K ht hz h a, Result.andThen_ok]
  cases getM ms a <;> rfl
theorem Chg.setMap {w : World} {b : Nat} {es : Array MapEntry} {clock : Nat} (hb : w.heap[b]? = some (.map es clock)) (o : Obj) : Chg (fun k => k = b) w { w with heap := w.heap.setIfInBounds b o } :=
  ⟨rfl, rfl, rfl, by simp, fun k _ hn => (heap_set hb).2 k hn, Nat.le_refl _⟩
theorem modify_pairs {es : Array MapEntry} {j : Nat} {e : MapEntry} (f : MapEntry → MapEntry) (hj : es.toList[j]? = some e) : (es.modify j f).toList = es.toList.set j (f e) := by
  apply List.ext_getElem?
  intro i
  have hj' : es[j]? = some e := by rw [← Array.getElem?_toList]; exact hj
  by_cases h : j = i
  · subst h
    rw [List.getElem?_set_self (lt_of_get hj), Array.getElem?_toList, Array.getElem?_modify, if_pos rfl, hj']
    rfl
  · rw [List.getElem?_set_ne h, Array.getElem?_toList, Array.getElem?_modify, if_neg h, Array.getElem?_toList]
theorem Eff.mapUpdate {t kt et : TypeId} {m k x : Operand} {a : α} {v : β} (K : KEnc P kt encK) (ht : P.underlying t = some (.map kt et)) (h : MapB encK encV w b ms) (hm : ev l m = some (.map (some b))) (hk : ev l k = some (encK a)) (hx : ev l x = some (encV v)) :
    Eff P N D l w ⟨none, .mapUpdate t m k x, ty, pos, af, gd⟩ fun u w' => u = undef ∧ MapB encK encV w' b (putM ms a v) ∧ Chg (fun k => k = b) w w' ∧ w'.heap.size = w.heap.size := fun T _ hs => by
  obtain ⟨es, clock, hb, hst, he, hn⟩ := h
  obtain ⟨hck, hf⟩ := find_spec (P := P) K he hn a w
  rcases hf with ⟨hf, hg, hno⟩ | ⟨j, e, u, hf, hj, hjk, hjv, hms, hg⟩
  · refine .inr (.inl ⟨undef, { w with heap := w.heap.setIfInBounds b (.map (es.push { key := encK a, val := encV v, born := clock }) (clock + 1)) }, ⟨rfl, ⟨_, _, (heap_set hb).1, stamped_push hst hno, ?_, hn.put a v⟩, Chg.setMap hb _, by simp⟩, ?_, rfl⟩)
    · rw [putM_new hg, Array.toList_push, List.map_append, List.map_append, he]; rfl
    · simp only [execOp, ev_eval hs hm, ev_eval hs hk, ev_eval hs hx, Instr.mapUpdate, Sem.run_bind, run_underlying ht, Result.andThen_ok, getB hb, hck, hf, setB _ hb]
      rfl
  · have hkk : ((es[j]?).map (·.key)).getD (encK a) = encK a := by
      rw [← Array.getElem?_toList, hj]; exact hjk
    refine .inr (.inl ⟨undef, { w with heap := w.heap.setIfInBounds b (.map (es.modify j fun e => { e with key := encK a, val := encV v }) clock) }, ⟨rfl, ⟨_, _, (heap_set hb).1, ?_, ?_, hn.put a v⟩, Chg.setMap hb _, by simp⟩, ?_, rfl⟩)
    · refine stamped_modify hst j _ (fun _ _ => rfl) (fun e' _ he' => ?_)
      rw [← Array.getElem?_toList, hj] at he'
      injection he' with he'
      subst he'
      exact hjk.symm
    · rw [modify_pairs _ hj, List.map_set, he, ← set_at hn hms, List.map_set]
    · simp only [execOp, ev_eval hs hm, ev_eval hs hk, ev_eval hs hx, Instr.mapUpdate, Sem.run_bind, run_underlying ht, Result.andThen_ok, getB hb, hck, hf, hkk, Instr.keyThatStays, K.same, if_true, Sem.run_pure, setB _ hb]

/-- The map, and the stamp of one key's entry. -/
def MapS (encK : α → Value) (encV : β → Value) (w : World) (b : Nat) (ms : List (α × β)) (k : α) (st : Nat) : Prop :=
  ∃ es clock, w.heap[b]? = some (.map es clock) ∧ Stamped es clock ∧ es.toList.map (fun e => (e.key, e.val)) = ms.map (fun p => (encK p.1, encV p.2)) ∧ KeysM ms ∧ ∃ (j : Nat) (e : MapEntry) (v : β), es.toList[j]? = some e ∧ ms[j]? = some (k, v) ∧ e.born = st
end
end Go.Proofs.YtjgcmpondbocfaaGreatDoor
