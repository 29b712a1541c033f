/- A region whose order is open: where no operation turns memory, whatever the order. No condition. -/
import Derived.Test.YtjgcmpondbocfaaGreatDoorMem
namespace Go.Proofs.YtjgcmpondbocfaaGreatDoor
open Go.RowKit

theorem lt_of_get' {α : Type} {xs : List α} {k : Nat} {x : α} (h : xs[k]? = some x) : k < xs.length := (List.getElem?_eq_some_iff.1 h).1

/-- What an operation gives, its guard seen to. -/
def OpOk (P : Program) (ops : Array Oper) (N : Nat) (D : List Deferred) (l : Env) (w : World) (o : Oper) (v : Value) : Prop :=
  ∀ T : Array Value, T.size = N → Slots T l → (Region.wanted o (yielded ops T) = true ∧ (execOp (Act.eval ⟨T, D⟩) o).run P w = .ok (.value v) w) ∨ (Region.wanted o (yielded ops T) = false ∧ v = undef)

section
variable {P : Program} {N : Nat} {D : List Deferred} {l : Env} {w : World} {Q : Exit → Act → World → Prop} {ops : Array Oper}

theorem OpOk.r {o : Oper} {v : Value} (h : Runs P N D l w o v w) (hg : o.guard = none) : OpOk P ops N D l w o v := fun T hT hs =>
  .inl ⟨by simp [Region.wanted, hg], h T hT hs⟩
theorem OpOk.take {o : Oper} {v : Value} {g dg : Nat} {b : Bool} (h : Runs P N D l w o v w) (hg : o.guard = some (g, b)) (hd : (ops[g]?).bind (·.dst) = some dg) (hb : look l dg = some (.bool b)) (hN : Nat.blt dg N = true) : OpOk P ops N D l w o v := by
  intro T hT hs
  refine .inl ⟨?_, h T hT hs⟩
  have h1 := hs _ _ hb
  have hlt : dg + 1 ≤ T.size := by rw [hT]; simpa [Nat.blt] using hN
  have h2 : T[dg]? = some (.bool b) := by
    rw [Array.getD_eq_getD_getElem?] at h1
    rw [Array.getElem?_eq_getElem hlt] at h1 ⊢
    simpa using h1
  simp [Region.wanted, yielded, hg, hd, h2]
theorem OpOk.pass {o : Oper} {g dg : Nat} {b c : Bool} (hg : o.guard = some (g, b)) (hd : (ops[g]?).bind (·.dst) = some dg) (hb : look l dg = some (.bool c)) (hne : (c == b) = false) (hN : Nat.blt dg N = true) : OpOk P ops N D l w o undef := by
  intro T hT hs
  refine .inr ⟨?_, rfl⟩
  have h1 := hs _ _ hb
  have hlt : dg + 1 ≤ T.size := by rw [hT]; simpa [Nat.blt] using hN
  have h2 : T[dg]? = some (.bool c) := by
    rw [Array.getD_eq_getD_getElem?] at h1
    rw [Array.getElem?_eq_getElem hlt] at h1 ⊢
    simpa using h1
  simp only [Region.wanted, yielded, hg, hd, Option.bind_some, h2]
  cases c <;> cases b <;> first | rfl | cases hne

theorem OpOk.passU {o : Oper} {g dg : Nat} {b : Bool} (hg : o.guard = some (g, b)) (hd : (ops[g]?).bind (·.dst) = some dg) (hb : look l dg = some undef) (hN : Nat.blt dg N = true) : OpOk P ops N D l w o undef := by
  intro T hT hs
  refine .inr ⟨?_, rfl⟩
  have h1 := hs _ _ hb
  have hlt : dg + 1 ≤ T.size := by rw [hT]; simpa [Nat.blt] using hN
  have h2 : T[dg]? = some undef := by
    rw [Array.getD_eq_getD_getElem?] at h1
    rw [Array.getElem?_eq_getElem hlt] at h1 ⊢
    simpa using h1
  simp only [Region.wanted, yielded, hg, hd, Option.bind_some, h2]
  rfl

/-- What is done: its place, its slot, its value. -/
abbrev Done := List (Nat × Option Tmp × Value)
def doneEnv : Done → Env
  | [] => []
  | (_, d, v) :: r => putE d v (doneEnv r)
/-- Of what is done what an operation may lean on. -/
def leans (o : Oper) : Done → Done
  | [] => []
  | x :: r => match o.after.toList.any (fun e => Region.binds .any e && Nat.beq e.on x.1) with
    | true => x :: leans o r
    | false => leans o r

/-- Each operation by itself, leaning on what its edges name alone. -/
def DrawOk (P : Program) (ops : Array Oper) (N : Nat) (D : List Deferred) (l : Env) (w : World) (K : Env → Prop) : Nat → Done → List Oper → Prop
  | _, done, [] => K (doneEnv done ++ l)
  | n, done, o :: r => ∃ v, OpOk P ops N D (doneEnv (leans o done) ++ l) w o v ∧ DrawOk P ops N D l w K (n + 1) ((n, o.dst, v) :: done) r

theorem look_append (a b : Env) (k : Nat) : look (a ++ b) k = match look a k with | some v => some v | none => look b k := by
  induction a with
  | nil => rfl
  | cons x r ih =>
    obtain ⟨j, v⟩ := x
    rw [List.cons_append, look_cons, look_cons]
    split
    · rfl
    · exact ih

/-- The slots that a region writes: each once, and none of them among those that are known. -/
def dstsOf' : List Oper → List Nat
  | [] => []
  | o :: r => match o.dst with
    | some d => d :: dstsOf' r
    | none => dstsOf' r
def nodupB : List Nat → Bool
  | [] => true
  | a :: r => !(r.any (Nat.beq a)) && nodupB r
def apartB (l : Env) (ds : List Nat) : Bool := l.all fun p => !(ds.any (Nat.beq p.1))
/-- Each edge goes back. -/
def backB : Nat → List Oper → Bool
  | _, [] => true
  | n, o :: r => o.after.toList.all (fun e => !Region.binds .any e || Nat.blt e.on n) && backB (n + 1) r
def dstsOkB (N : Nat) (o : List Oper) : Bool := o.all fun x => dstOk N x.dst

theorem any_beq {a : Nat} {r : List Nat} (h : r.any (Nat.beq a) = false) : a ∉ r := by
  intro hm
  have := List.any_eq_false.1 h a hm
  exact this (Nat.beq_refl a)
theorem nodupB_spec : ∀ {l : List Nat}, nodupB l = true → l.Nodup
  | [], _ => List.nodup_nil
  | a :: r, h => by
    simp only [nodupB, Bool.and_eq_true, Bool.not_eq_true'] at h
    exact List.nodup_cons.2 ⟨any_beq h.1, nodupB_spec h.2⟩
theorem apartB_spec {l : Env} {ds : List Nat} (h : apartB l ds = true) : ∀ k v, look l k = some v → k ∉ ds := by
  induction l with
  | nil => intro k v hk; simp [look] at hk
  | cons x r ih =>
    simp only [apartB, List.all_cons, Bool.and_eq_true, Bool.not_eq_true'] at h
    intro k v hk
    rw [look_cons] at hk
    split at hk
    · rename_i e; subst e; exact any_beq h.1
    · exact ih h.2 k v hk
theorem backB_spec : ∀ {o : List Oper} {n : Nat}, backB n o = true → ∀ i x, o[i]? = some x → ∀ e ∈ x.after, Region.binds .any e = true → e.on < n + i
  | [], n, _, i, x, hx => by simp at hx
  | y :: r, n, h, i, x, hx => by
    simp only [backB, Bool.and_eq_true] at h
    cases i with
    | zero =>
      have : y = x := by simpa using hx
      subst this
      intro e he hbd
      have := List.all_eq_true.1 h.1 e (Array.mem_toList_iff.2 he)
      rw [hbd, Bool.not_true, Bool.false_or] at this
      have h2 : e.on + 1 ≤ n := by simpa [Nat.blt] using this
      omega
    | succ i =>
      intro e he hbd
      have := backB_spec h.2 i x (by simpa using hx) e he hbd
      omega
theorem mem_dstsOf : ∀ {o : List Oper} {i : Nat} {x : Oper} {d : Nat}, o[i]? = some x → x.dst = some d → d ∈ dstsOf' o
  | [], i, x, d, hx, _ => by simp at hx
  | y :: r, i, x, d, hx, hd => by
    cases i with
    | zero =>
      have : y = x := by simpa using hx
      subst this
      simp [dstsOf', hd]
    | succ i =>
      have := mem_dstsOf (o := r) (i := i) (by simpa using hx) hd
      unfold dstsOf'
      split
      · exact List.mem_cons_of_mem _ this
      · exact this
theorem dsts_inj : ∀ {o : List Oper} {i j : Nat} {x y : Oper} {d : Nat}, (dstsOf' o).Nodup → o[i]? = some x → o[j]? = some y → x.dst = some d → y.dst = some d → i = j
  | [], i, j, x, y, d, _, hx, _, _, _ => by simp at hx
  | z :: r, i, j, x, y, d, hn, hx, hy, hdx, hdy => by
    have hr : (dstsOf' r).Nodup := by
      unfold dstsOf' at hn
      split at hn
      · exact (List.nodup_cons.1 hn).2
      · exact hn
    cases i with
    | zero =>
      cases j with
      | zero => rfl
      | succ j =>
        have : z = x := by simpa using hx
        subst this
        have hm := mem_dstsOf (o := r) (i := j) (by simpa using hy) hdy
        simp only [dstsOf', hdx] at hn
        exact absurd hm (List.nodup_cons.1 hn).1
    | succ i =>
      cases j with
      | zero =>
        have : z = y := by simpa using hy
        subst this
        have hm := mem_dstsOf (o := r) (i := i) (by simpa using hx) hdx
        simp only [dstsOf', hdy] at hn
        exact absurd hm (List.nodup_cons.1 hn).1
      | succ j =>
        have := dsts_inj (i := i) (j := j) hr (by simpa using hx) (by simpa using hy) hdx hdy
        omega

/-- The values that 'DrawOk' finds. -/
theorem DrawOk.vals {K : Env → Prop} : ∀ {o : List Oper} {n : Nat} {done : Done}, DrawOk P ops N D l w K n done o →
    ∃ vs : List Value, vs.length = o.length ∧ K (doneEnv (((o.zip vs).zipIdx n).reverse.map (fun x => (x.2, x.1.1.dst, x.1.2)) ++ done) ++ l) ∧
      ∀ i x v, o[i]? = some x → vs[i]? = some v → OpOk P ops N D (doneEnv (leans x (((o.take i).zip (vs.take i)).zipIdx n |>.reverse.map (fun x => (x.2, x.1.1.dst, x.1.2)) |>.append done)) ++ l) w x v
  | [], n, done, h => ⟨[], rfl, by simpa [DrawOk] using h, fun i x v hx => by simp at hx⟩
  | y :: r, n, done, h => by
    obtain ⟨v, h1, h2⟩ := h
    obtain ⟨vs, g1, g2, g3⟩ := DrawOk.vals h2
    refine ⟨v :: vs, by simp [g1], ?_, ?_⟩
    · simpa using g2
    · intro i x u hx hu
      cases i with
      | zero =>
        have e1 : y = x := by simpa using hx
        have e2 : v = u := by simpa using hu
        subst e1 e2
        simpa using h1
      | succ i =>
        have := g3 i x u (by simpa using hx) (by simpa using hu)
        simpa using this

theorem look_doneEnv {k : Nat} {v : Value} : ∀ {done : Done}, look (doneEnv done) k = some v → ∃ i, (i, some k, v) ∈ done
  | [], h => by simp [doneEnv, look] at h
  | (i, d, u) :: r, h => by
    unfold doneEnv at h
    cases d with
    | none =>
      obtain ⟨j, hj⟩ := look_doneEnv (done := r) h
      exact ⟨j, List.mem_cons_of_mem _ hj⟩
    | some d =>
      simp only [putE] at h
      rw [look_cons] at h
      split at h
      · rename_i e; subst e
        injection h with h; subst h
        exact ⟨i, List.mem_cons_self⟩
      · obtain ⟨j, hj⟩ := look_doneEnv (done := r) h
        exact ⟨j, List.mem_cons_of_mem _ hj⟩
theorem mem_leans {o : Oper} {x : Nat × Option Tmp × Value} : ∀ {done : Done}, x ∈ leans o done → x ∈ done ∧ ∃ e ∈ o.after, Region.binds .any e = true ∧ e.on = x.1
  | [], h => by simp [leans] at h
  | y :: r, h => by
    unfold leans at h
    split at h
    · rename_i ha
      rcases List.mem_cons.1 h with rfl | h
      · obtain ⟨e, he, hb⟩ := List.any_eq_true.1 ha
        rw [Bool.and_eq_true] at hb
        exact ⟨List.mem_cons_self, e, Array.mem_toList_iff.1 he, hb.1, Nat.eq_of_beq_eq_true hb.2⟩
      · obtain ⟨h1, h2⟩ := mem_leans h
        exact ⟨List.mem_cons_of_mem _ h1, h2⟩
    · obtain ⟨h1, h2⟩ := mem_leans h
      exact ⟨List.mem_cons_of_mem _ h1, h2⟩
theorem mem_zipDone {o : List Oper} {vs : List Value} {n i : Nat} {d : Option Tmp} {v : Value} (h : (i, d, v) ∈ ((o.zip vs).zipIdx n).reverse.map (fun x => (x.2, x.1.1.dst, x.1.2))) :
    n ≤ i ∧ ∃ x, o[i - n]? = some x ∧ x.dst = d ∧ vs[i - n]? = some v := by
  rw [List.mem_map] at h
  obtain ⟨⟨⟨x, u⟩, j⟩, hm, he⟩ := h
  rw [List.mem_reverse] at hm
  simp only [Prod.mk.injEq] at he
  obtain ⟨rfl, rfl, rfl⟩ := he
  have := List.mem_zipIdx hm
  obtain ⟨h1, h2, h3⟩ := this
  have hz : (o.zip vs)[j - n]? = some (x, u) := by
    rw [h3]
    exact List.getElem?_eq_getElem _
  rw [List.getElem?_zip_eq_some] at hz
  exact ⟨h1, x, hz.1, rfl, hz.2⟩

/-! ### an assignment that comes last, and may write what the others read -/
def lastOk (o : List Oper) (af : Array Edge) : Bool :=
  ((List.range o.length).all fun i => af.toList.any fun e => Region.binds .any e && Nat.beq e.on i) && (af.toList.all fun e => !Region.binds .any e || Nat.blt e.on o.length) && o.all fun z => match z.guard with
    | none => true
    | some (j, _) => Nat.blt j o.length
/-- What is left behind all others. -/
def Last (d : Tmp) (y : Operand) (Q : Exit → Act → World → Prop) : Exit → Act → World → Prop
  | .normal, a, w => Q .normal (a.put (some d) (a.eval y)) w
  | e, a, w => Q e a w
theorem Oper.wp_last {P : Program} {o : Oper} {a : Act} {w : World} {K K' : Act → World → Prop} {Q : Exit → Act → World → Prop} {d : Tmp} {y : Operand} (h : ∀ a w, K a w → K' a w) (hh : o.wp P a w K (Last d y Q)) : o.wp P a w K' Q := by
  unfold Oper.wp at *
  generalize (execOp a.eval o).run P w = r at *
  cases r with
  | ok n w' =>
    cases n <;> simp only [Oper.upon] at hh ⊢ <;>
      first
        | exact h _ _ hh
        | exact Calls.mono hh (fun e w'' he => by cases e <;> first | exact h _ _ he | exact he)
        | exact Rows.mono hh (fun _ _ he => h _ _ he)
  | halt x w' => cases x <;> simp only [Oper.upon] at hh ⊢ <;> exact hh
theorem wpAny_last {P : Program} {Q : Exit → Act → World → Prop} {o : List Oper} {d : Tmp} {y : Operand} {ty : TypeId} {pos : String} {af : Array Edge} (hok : lastOk o af = true) (hback : backB 0 o = true) :
    ∀ (fuel : Nat) (listed : Array Bool) (a : Act) (w : World), listed.size = o.length → wpAny P .any o.toArray (Last d y Q) fuel listed a w →
      wpAny P .any (o ++ [(⟨some d, .assign y, ty, pos, af, none⟩ : Oper)]).toArray Q (fuel + 1) (listed.push false) a w := by
  unfold lastOk at hok
  rw [Bool.and_eq_true, Bool.and_eq_true] at hok
  obtain ⟨⟨hcov, haf⟩, hgd⟩ := hok
  let x : Oper := ⟨some d, .assign y, ty, pos, af, none⟩
  have hat : ∀ i, i < o.length → (o ++ [x]).toArray[i]? = o.toArray[i]? := fun i hi => by simp [List.getElem?_append, hi]
  have hxat : (o ++ [x]).toArray[o.length]? = some x := by simp
  have hyield : ∀ (T : Array Value) (j : Nat), j < o.length → yielded (o ++ [x]).toArray T j = yielded o.toArray T j := fun T j hj => by unfold yielded; rw [hat j hj]
  -- what may come next
  have hget : ∀ (L : Array Bool) (b : Bool) (j : Nat), L.size = o.length → (L.push b).getD j false = if j < o.length then L.getD j false else if j = o.length then b else false := by
    intro L b j hL
    simp only [Array.getD_eq_getD_getElem?, Array.getElem?_push, hL]
    by_cases h1 : j < o.length
    · have : j ≠ o.length := by omega
      simp [h1, this]
    · by_cases h2 : j = o.length
      · simp [h2]
      · have h3 : L[j]? = none := Array.getElem?_eq_none (by omega)
        simp [h1, h2, h3]
  have hxr : ∀ (L : Array Bool), L.size = o.length → (∀ i, i < o.length → L[i]? = some true) → (af.all fun e => !Region.binds .any e || (L.push false).getD e.on false) = true := by
    intro L hL hall
    rw [Array.all_eq_true']
    intro e he
    have h1 := List.all_eq_true.1 haf e (Array.mem_toList_iff.2 he)
    cases hb : Region.binds .any e with
    | false => rfl
    | true =>
      rw [hb] at h1
      have hlt : e.on < o.length := by have : e.on + 1 ≤ o.length := by simpa [Nat.blt] using h1
                                       omega
      rw [hget L false e.on hL, if_pos hlt, Array.getD_eq_getD_getElem?, hall e.on hlt]
      rfl
  have hready : ∀ (L : Array Bool) (b : Bool) (i : Nat), L.size = o.length → i < o.length → (i ∈ Region.ready .any (o ++ [x]).toArray (L.push b) ↔ i ∈ Region.ready .any o.toArray L) := by
    intro L b i hL hi
    unfold Region.ready
    have hi1 : i < (o ++ [x]).length := by simp; omega
    simp only [List.mem_filter, List.mem_range, List.size_toArray, hi, hi1, true_and, hat i hi]
    have e1 : (L.push b).getD i true = L.getD i true := by
      simp only [Array.getD_eq_getD_getElem?, Array.getElem?_push, hL]
      have : i ≠ o.length := by omega
      simp [this]
    rw [e1]
    have ho : o.toArray[i]? = some o[i] := by simp [hi]
    rw [ho]
    simp only [Option.map_some, Option.getD_some]
    have e2 : (o[i].after.all fun e => !Region.binds .any e || (L.push b).getD e.on false) = (o[i].after.all fun e => !Region.binds .any e || L.getD e.on false) := by
      rw [Bool.eq_iff_iff, Array.all_eq_true', Array.all_eq_true']
      have key : ∀ e, e ∈ o[i].after → (!Region.binds .any e || (L.push b).getD e.on false) = (!Region.binds .any e || L.getD e.on false) := by
        intro e he
        cases hb : Region.binds .any e with
        | false => rfl
        | true =>
          have := backB_spec hback i o[i] (List.getElem?_eq_getElem hi) e he hb
          rw [hget L b e.on hL, if_pos (by omega)]
      exact ⟨fun h e he => by rw [← key e he]; exact h e he, fun h e he => by rw [key e he]; exact h e he⟩
    rw [e2]
  have hlast : ∀ (L : Array Bool) (i : Nat), L.size = o.length → i ∈ Region.ready .any (o ++ [x]).toArray (L.push false) → ¬ i < o.length → i = o.length ∧ ∀ j, j < o.length → L[j]? = some true := by
    intro L i hL hi hni
    unfold Region.ready at hi
    rw [List.mem_filter, List.mem_range] at hi
    obtain ⟨h1, h2⟩ := hi
    have hio : i = o.length := by
      have : i < o.length + 1 := by simpa using h1
      omega
    subst hio
    refine ⟨rfl, fun j hj => ?_⟩
    rw [hxat] at h2
    simp only [Option.map_some, Option.getD_some, Bool.and_eq_true] at h2
    have h3 := h2.2
    have hc := List.all_eq_true.1 hcov j (List.mem_range.2 hj)
    obtain ⟨e, he, hb⟩ := List.any_eq_true.1 hc
    replace he := Array.mem_toList_iff.1 he
    rw [Bool.and_eq_true] at hb
    have hej := Nat.eq_of_beq_eq_true hb.2
    have h3' : (af.all fun e => !Region.binds .any e || (L.push false).getD e.on false) = true := h3
    rw [Array.all_eq_true'] at h3'
    have h4 := h3' e he
    rw [hb.1, hej, hget L false j hL, if_pos hj] at h4
    have hlt : j < L.size := by omega
    rw [Array.getElem?_eq_getElem hlt]
    simpa [Array.getD_eq_getD_getElem?, Array.getElem?_eq_getElem hlt] using h4
  have hallof : ∀ (L : Array Bool), L.size = o.length → Region.ready .any o.toArray L = [] → ∀ i, i < o.length → L[i]? = some true := by
    intro L hL hr i
    induction i using Nat.strongRecOn with
    | _ i ihi =>
      intro hi
      have hx : L[i]? = some (L[i]'(by omega)) := Array.getElem?_eq_getElem (by omega)
      cases hb : L[i]'(by omega) with
      | true => rw [hx, hb]
      | false =>
        exfalso
        have hmem : i ∈ Region.ready .any o.toArray L := by
          unfold Region.ready
          rw [List.mem_filter]
          refine ⟨by simpa using hi, ?_⟩
          have ho : o.toArray[i]? = some o[i] := by simp [hi]
          simp only [ho, Option.map_some, Option.getD_some, Array.getD_eq_getD_getElem?, hx, hb, Bool.not_false, Bool.true_and]
          rw [Array.all_eq_true']
          intro e he
          cases hbd : Region.binds .any e with
          | false => rfl
          | true =>
            have g2 := backB_spec hback i o[i] (List.getElem?_eq_getElem hi) e he hbd
            have := ihi e.on (by omega) (by omega)
            simp [this]
        rw [hr] at hmem
        simp at hmem
  -- the last one is carried out
  have hfin : ∀ (fuel : Nat) (L : Array Bool) (a : Act) (w : World), L.size = o.length → (∀ i, i < o.length → L[i]? = some true) → Last d y Q .normal a w → wpAny P .any (o ++ [x]).toArray Q (fuel + 1) (L.push false) a w := by
    intro fuel L a w hL hall hq
    have hsome : o.length ∈ Region.ready .any (o ++ [x]).toArray (L.push false) := by
      unfold Region.ready
      rw [List.mem_filter]
      refine ⟨by simp, ?_⟩
      rw [hxat]
      simp only [Option.map_some, Option.getD_some, Bool.and_eq_true]
      refine ⟨by rw [Array.getD_eq_getD_getElem?, Array.getElem?_push, if_pos hL.symm]; rfl, hxr L hL hall⟩
    have hnone : Region.ready .any (o ++ [x]).toArray ((L.push false).setIfInBounds o.length true) = [] := by
      unfold Region.ready
      rw [List.filter_eq_nil_iff]
      intro j hj
      rw [List.mem_range] at hj
      have hj' : j < o.length + 1 := by simpa using hj
      have : ((L.push false).setIfInBounds o.length true).getD j true = true := by
        rw [Array.getD_eq_getD_getElem?, Array.getElem?_setIfInBounds]
        by_cases e : o.length = j
        · subst e; simp [hL]
        · rw [if_neg e, Array.getElem?_push, if_neg (by omega), hall j (by omega)]; rfl
      simp [this]
    refine ⟨fun hr => by rw [hr] at hsome; simp at hsome, fun i hi => ?_⟩
    by_cases hlt : i < o.length
    · have h1 := (hready L false i hL hlt).1 hi
      unfold Region.ready at h1
      rw [List.mem_filter] at h1
      have h2 := h1.2
      simp [Array.getD_eq_getD_getElem?, hall i hlt] at h2
    · obtain ⟨rfl, _⟩ := hlast L i hL hi hlt
      unfold wpOp
      rw [hxat]
      simp only [x, Region.wanted, if_true]
      refine .inl ?_
      unfold Oper.wp
      have hr : (execOp a.eval x).run P w = .ok (.value (a.eval y)) w := by simp only [x, execOp]; rfl
      rw [hr, Oper.upon_value]
      cases fuel with
      | zero => exact ⟨hnone, hq⟩
      | succ f => exact ⟨fun _ => hq, fun j hj => by rw [hnone] at hj; simp at hj⟩
  intro fuel
  induction fuel with
  | zero =>
    intro listed a w hL h
    exact hfin 0 listed a w hL (hallof listed hL h.1) h.2
  | succ fuel ih =>
    intro listed a w hL h
    cases hr : Region.ready .any o.toArray listed with
    | nil => exact hfin (fuel + 1) listed a w hL (hallof listed hL hr) (h.1 hr)
    | cons r rs =>
      have hrm : r ∈ Region.ready .any o.toArray listed := by rw [hr]; exact List.mem_cons_self
      have hrlt : r < o.length := by
        unfold Region.ready at hrm
        rw [List.mem_filter, List.mem_range] at hrm
        simpa using hrm.1
      refine ⟨fun hr' => ?_, fun i hi => ?_⟩
      · have := (hready listed false r hL hrlt).2 hrm
        rw [hr'] at this; simp at this
      · by_cases hlt : i < o.length
        · have hi' := (hready listed false i hL hlt).1 hi
          have h1 := h.2 i hi'
          have hset : (listed.push false).setIfInBounds i true = (listed.setIfInBounds i true).push false := by
            apply Array.ext_getElem?
            intro j
            simp only [Array.getElem?_setIfInBounds, Array.getElem?_push, Array.size_push, Array.size_setIfInBounds]
            have hi1 : i < listed.size := by omega
            have hi2 : i ≠ listed.size := by omega
            by_cases e : i = j
            · subst e; simp [hi1, hi2]; omega
            · simp [e]
          have hK : ∀ a w, wpAny P .any o.toArray (Last d y Q) fuel (listed.setIfInBounds i true) a w → wpAny P .any (o ++ [x]).toArray Q (fuel + 1) ((listed.push false).setIfInBounds i true) a w := fun a w hh => by
            rw [hset]
            exact ih _ a w (by simpa using hL) hh
          unfold wpOp at h1 ⊢
          rw [hat i hlt]
          have ho : o.toArray[i]? = some o[i] := by simp [hlt]
          rw [ho] at h1 ⊢
          simp only at h1 ⊢
          have hw : Region.wanted o[i] (yielded (o ++ [x]).toArray a.tmps) = Region.wanted o[i] (yielded o.toArray a.tmps) := by
            unfold Region.wanted
            cases hg : o[i].guard with
            | none => rfl
            | some p =>
              obtain ⟨j, b⟩ := p
              have h2 := List.all_eq_true.1 hgd o[i] (List.getElem_mem _)
              rw [hg] at h2
              have hj : j + 1 ≤ o.length := by simpa [Nat.blt] using h2
              simp only [hyield a.tmps j hj]
          rw [hw]
          split
          · rename_i hww
            rw [if_pos hww] at h1
            rcases h1 with h1 | ⟨h1, h2⟩
            · exact .inl (Oper.wp_last hK h1)
            · exact .inr ⟨h1, h2⟩
          · rename_i hww
            rw [if_neg hww] at h1
            exact hK _ _ h1
        · obtain ⟨_, hall⟩ := hlast listed i hL hi hlt
          unfold Region.ready at hrm
          rw [List.mem_filter] at hrm
          have h2 := hrm.2
          simp [Array.getD_eq_getD_getElem?, hall r hrlt] at h2

/-- WHATEVER THE ORDER. -/
theorem anyDraw {o : List Oper} (hnd : nodupB (dstsOf' o) = true) (hap : apartB l (dstsOf' o) = true) (hback : backB 0 o = true) (hN : dstsOkB N o = true)
    (h : DrawOk P o.toArray N D l w.drew (fun l' => St N D l' (Q .normal) w.drew) 0 [] o) : ∀ T : Array Value, T.size = N → Slots T l → wpAny P .any o.toArray Q o.length (Array.replicate o.length false) ⟨T, D⟩ w.drew := by
  obtain ⟨vs, hlen, hK, hv⟩ := h.vals
  have hnd' := nodupB_spec hnd
  have hap' := apartB_spec hap
  have hback' : ∀ (i : Nat) (x : Oper), o[i]? = some x → ∀ e ∈ x.after, Region.binds .any e = true → e.on < i := fun i x hx e he hbd => by
    have := backB_spec hback i x hx e he hbd
    omega
  have hdst : ∀ (i : Nat) (x : Oper), o[i]? = some x → dstOk N x.dst = true := fun i x hx => List.all_eq_true.1 hN x (List.mem_of_getElem? hx)
  have main : ∀ (fuel : Nat) (listed : Array Bool) (T : Array Value), listed.size = o.length → listed.toList.count false ≤ fuel → T.size = N → Slots T l →
      (∀ (i : Nat) (x : Oper) (v : Value) (d : Nat), listed[i]? = some true → o[i]? = some x → vs[i]? = some v → x.dst = some d → T.getD d undef = v) → wpAny P .any o.toArray Q fuel listed ⟨T, D⟩ w.drew := by
    intro fuel
    induction fuel with
    | zero =>
      intro listed T hsz hcnt hT hs hI
      have hall : ∀ i, i < o.length → listed[i]? = some true := by
        intro i hi
        have hx : listed[i]? = some (listed[i]'(by omega)) := Array.getElem?_eq_getElem (by omega)
        cases hb : listed[i]'(by omega) with
        | true => rw [hx, hb]
        | false =>
          have : false ∈ listed.toList := by
            rw [← hb, Array.mem_toList_iff]; exact Array.getElem_mem _
          have := List.count_pos_iff.2 this
          omega
      refine ⟨?_, hK T hT ?_⟩
      · unfold Region.ready
        rw [List.filter_eq_nil_iff]
        intro i hi
        rw [List.mem_range] at hi
        have := hall i (by simpa using hi)
        simp [Array.getD_eq_getD_getElem?, this]
      · intro k v hk
        rw [List.append_nil, look_append] at hk
        split at hk
        · rename_i u hu
          injection hk with hk; subst hk
          obtain ⟨i, hi⟩ := look_doneEnv hu
          obtain ⟨_, x, h1, h2, h3⟩ := mem_zipDone hi
          exact hI (i - 0) x u k (hall _ (lt_of_get' h1)) h1 h3 h2
        · exact hs k v hk
    | succ fuel ih =>
      intro listed T hsz hcnt hT hs hI
      refine ⟨fun hr => ?_, fun i hi => ?_⟩
      · have hall : ∀ i, i < o.length → listed[i]? = some true := by
          intro i
          induction i using Nat.strongRecOn with
          | _ i ihi =>
            intro hi
            have hx : listed[i]? = some (listed[i]'(by omega)) := Array.getElem?_eq_getElem (by omega)
            cases hb : listed[i]'(by omega) with
            | true => rw [hx, hb]
            | false =>
              exfalso
              have hmem : i ∈ Region.ready .any o.toArray listed := by
                unfold Region.ready
                rw [List.mem_filter]
                refine ⟨by simpa using hi, ?_⟩
                have ho : o.toArray[i]? = some o[i] := by simp [hi]
                simp only [ho, Option.map_some, Option.getD_some, Array.getD_eq_getD_getElem?, hx, hb, Bool.not_false, Bool.true_and]
                rw [Array.all_eq_true']
                intro e he
                cases hbd : Region.binds .any e with
                | false => rfl
                | true =>
                  have g2 := hback' i o[i] (List.getElem?_eq_getElem hi) e he hbd
                  have := ihi e.on g2 (by omega)
                  simp [this]
              rw [hr] at hmem
              simp at hmem
        refine hK T hT ?_
        intro k v hk
        rw [List.append_nil, look_append] at hk
        split at hk
        · rename_i u hu
          injection hk with hk; subst hk
          obtain ⟨i, hi⟩ := look_doneEnv hu
          obtain ⟨_, x, h1, h2, h3⟩ := mem_zipDone hi
          exact hI (i - 0) x u k (hall _ (lt_of_get' h1)) h1 h3 h2
        · exact hs k v hk
      · unfold Region.ready at hi
        rw [List.mem_filter, List.mem_range] at hi
        obtain ⟨hi1, hi2⟩ := hi
        have hi1' : i < o.length := by simpa using hi1
        have ho : o.toArray[i]? = some o[i] := by simp [hi1']
        have hx : o[i]? = some o[i] := List.getElem?_eq_getElem hi1'
        simp only [ho, Option.map_some, Option.getD_some, Bool.and_eq_true] at hi2
        obtain ⟨hu, hp⟩ := hi2
        have hlt : i < listed.size := by omega
        have hf : listed[i]? = some false := by
          rw [Array.getD_eq_getD_getElem?, Array.getElem?_eq_getElem hlt] at hu
          rw [Array.getElem?_eq_getElem hlt]
          simpa using hu
        obtain ⟨v, hvi⟩ : ∃ v, vs[i]? = some v := ⟨vs[i]'(by omega), List.getElem?_eq_getElem (by omega)⟩
        have hpre : ∀ e ∈ o[i].after, Region.binds .any e = true → listed[e.on]? = some true := by
          intro e he hbd
          rw [Array.all_eq_true'] at hp
          have h1 := hp e he
          have g2 := hback' i o[i] hx e he hbd
          rw [hbd] at h1
          have hl2 : e.on < listed.size := by omega
          rw [Array.getD_eq_getD_getElem?, Array.getElem?_eq_getElem hl2] at h1
          rw [Array.getElem?_eq_getElem hl2]
          simpa using h1
        have hok := hv i o[i] v hx hvi T hT (by
          intro k u hk
          rw [look_append] at hk
          split at hk
          · rename_i u' hu'
            injection hk with hk; subst hk
            obtain ⟨j, hj⟩ := look_doneEnv hu'
            obtain ⟨hj1, e, he, hbd, hej⟩ := mem_leans hj
            dsimp only at hej
            have hj2 : (j, some k, u') ∈ (((o.take i).zip (vs.take i)).zipIdx 0).reverse.map (fun x => (x.2, x.1.1.dst, x.1.2)) := by simpa using hj1
            obtain ⟨_, x, h1, h2, h3⟩ := mem_zipDone hj2
            rw [Nat.sub_zero] at h1 h3
            have hji : j < i := by
              have := lt_of_get' h1
              simp at this; omega
            rw [List.getElem?_take_of_lt hji] at h1 h3
            exact hI j x u' k (by rw [← hej]; exact hpre e he hbd) h1 h3 h2
          · exact hs k u hk)
        have hcnt' : (listed.setIfInBounds i true).toList.count false ≤ fuel := by
          rw [Array.toList_setIfInBounds, List.count_set (by simpa using hlt)]
          have : listed.toList[i]'(by simpa using hlt) = false := by
            have h2 := hf
            rw [Array.getElem?_eq_getElem hlt] at h2
            simpa using h2
          have hpos : 0 < listed.toList.count false := List.count_pos_iff.2 (by rw [← this]; exact List.getElem_mem _)
          rw [this]
          have e1 : (if (false == false) = true then 1 else 0) = 1 := rfl
          have e2 : (if (true == false) = true then 1 else 0) = 0 := rfl
          rw [e1, e2]; omega
        have hnext : ∀ T', T'.size = N → Slots T' l → (∀ d, o[i].dst = some d → T'.getD d undef = v) → (∀ k, (∀ d, o[i].dst = some d → k ≠ d) → T'.getD k undef = T.getD k undef) →
            wpAny P .any o.toArray Q fuel (listed.setIfInBounds i true) ⟨T', D⟩ w.drew := by
          intro T' hT' hs' hd' hk'
          refine ih _ T' (by simpa using hsz) hcnt' hT' hs' ?_
          intro j x u d hj hjx hju hjd
          by_cases hji : j = i
          · subst hji
            rw [hx] at hjx
            injection hjx with hjx; subst hjx
            rw [hvi] at hju
            injection hju with hju; subst hju
            exact hd' d hjd
          · rw [Array.getElem?_setIfInBounds_ne (fun e => hji e.symm)] at hj
            rw [hk' d (fun d' hd2 e => hji (by subst e; exact dsts_inj hnd' hjx hx hjd hd2))]
            exact hI j x u d hj hjx hju hjd
        obtain ⟨T', h1, h2, h3⟩ := hs.putE (D := D) (d := o[i].dst) (by rw [hT]; exact hdst i _ hx) v
        have hput : ∀ T2, Act.put ⟨T, D⟩ o[i].dst v = ⟨T2, D⟩ → T2.size = T.size → (∀ d, o[i].dst = some d → T2.getD d undef = v) ∧ (∀ k, (∀ d, o[i].dst = some d → k ≠ d) → T2.getD k undef = T.getD k undef) ∧ Slots T2 l := by
          intro T2 e1 e2
          cases hd : o[i].dst with
          | none =>
            rw [hd] at e1
            simp only [Act.put, Act.mk.injEq] at e1
            obtain ⟨rfl, _⟩ := e1
            exact ⟨fun d h => by simp at h, fun _ _ => rfl, hs⟩
          | some d =>
            rw [hd] at e1
            simp only [Act.put, Act.mk.injEq] at e1
            obtain ⟨rfl, _⟩ := e1
            have hd2 : d < T.size := by
              have := hdst i _ hx
              rw [hd] at this
              have h3 : d + 1 ≤ N := by simpa [dstOk, Nat.blt] using this
              rw [hT]; exact h3
            have hother : ∀ k, k ≠ d → (T.setIfInBounds d v).getD k undef = T.getD k undef := fun k hk => by
              simp [Array.getD_eq_getD_getElem?, Array.getElem?_setIfInBounds_ne (Ne.symm hk)]
            refine ⟨fun d' h => ?_, fun k hk => hother k (hk d rfl), fun k u hk => ?_⟩
            · injection h with h; subst h
              simp [Array.getD_eq_getD_getElem?, hd2]
            · have hne : k ≠ d := fun e => by
                subst e
                exact hap' k u hk (mem_dstsOf hx hd)
              rw [hother k hne]; exact hs k u hk
        obtain ⟨p1, p2, p3⟩ := hput T' h1 h2
        have hgo := hnext T' (h2.trans hT) p3 p1 p2
        unfold wpOp
        simp only [ho]
        rcases hok with ⟨hw, hr⟩ | ⟨hw, hr⟩
        · rw [if_pos hw]
          refine .inl ?_
          unfold Oper.wp
          rw [hr, Oper.upon_value, h1]
          exact hgo
        · subst hr
          rw [if_neg (by rw [hw]; simp), h1]
          exact hgo
  intro T hT hs
  refine main o.length (Array.replicate o.length false) T (by simp) (by simp) hT hs ?_
  intro i x v d hi
  rw [Array.getElem?_replicate] at hi
  split at hi <;> simp at hi
/-- What an operation comes to, where calls may be among them. -/
def OpX (P : Program) (ops : Array Oper) (N : Nat) (D : List Deferred) (l : Env) (w : World) (o : Oper) (v : Value) : Prop :=
  ∀ T : Array Value, T.size = N → Slots T l → (Region.wanted o (yielded ops T) = true ∧ ((execOp (Act.eval ⟨T, D⟩) o).run P w = .ok (.value v) w ∨
    ∃ f args, (execOp (Act.eval ⟨T, D⟩) o).run P w = .ok (.enter f args) w ∧ Ret P f args.toList w fun r w' => r = v ∧ Ext w w')) ∨ (Region.wanted o (yielded ops T) = false ∧ v = undef)
theorem OpX.q {o : Oper} {v : Value} (h : OpOk P ops N D l w o v) : OpX P ops N D l w o v := fun T hT hs => by
  rcases h T hT hs with ⟨h1, h2⟩ | h
  · exact .inl ⟨h1, .inl h2⟩
  · exact .inr h
theorem OpX.call {d : Option Tmp} {ty : TypeId} {pos : String} {af : Array Edge} {fo : Operand} {args : Array Operand} {at_ : Array TypeId} {f : FuncId} {fst caps : Array Value} {vs : List Value} {v : Value} (hf : ev l fo = some (.func (.func f) fst caps)) (ha : evs l args.toList = some vs)
    (he : Ent P f) (hR : Ret P f (fst.toList ++ vs ++ caps.toList) w fun r w' => r = v ∧ Ext w w') : OpX P ops N D l w ⟨d, .call { callee := .value fo, args := args, argTypes := at_ }, ty, pos, af, none⟩ v := fun T hT hs => by
  have hargs : args.map (Act.eval ⟨T, D⟩) = vs.toArray := by rw [← evs_eval hs ha, ← Array.toList_map, Array.toArray_toList]
  have heq : fst ++ vs.toArray ++ caps = (fst.toList ++ vs ++ caps.toList).toArray := by apply Array.ext'; simp
  refine .inl ⟨by simp [Region.wanted], .inr ⟨f, (fst.toList ++ vs ++ caps.toList).toArray, ?_, hR⟩⟩
  simp only [execOp, Sem.run_bind, run_resolve_value (ev_eval hs hf), Result.andThen_ok, hargs, invoke, he _ _, heq]
theorem OpX.callG {d : Option Tmp} {ty : TypeId} {pos : String} {af : Array Edge} {fo : Operand} {args : Array Operand} {at_ : Array TypeId} {f : FuncId} {fst caps : Array Value} {vs : List Value} {v : Value} {g dg : Nat} {b : Bool} (hf : ev l fo = some (.func (.func f) fst caps)) (ha : evs l args.toList = some vs)
    (he : Ent P f) (hR : Ret P f (fst.toList ++ vs ++ caps.toList) w fun r w' => r = v ∧ Ext w w') (hd : (ops[g]?).bind (·.dst) = some dg) (hb : look l dg = some (.bool b)) (hN : Nat.blt dg N = true) : OpX P ops N D l w ⟨d, .call { callee := .value fo, args := args, argTypes := at_ }, ty, pos, af, some (g, b)⟩ v := fun T hT hs => by
  have hargs : args.map (Act.eval ⟨T, D⟩) = vs.toArray := by rw [← evs_eval hs ha, ← Array.toList_map, Array.toArray_toList]
  have heq : fst ++ vs.toArray ++ caps = (fst.toList ++ vs ++ caps.toList).toArray := by apply Array.ext'; simp
  have hw : Region.wanted ⟨d, .call { callee := .value fo, args := args, argTypes := at_ }, ty, pos, af, some (g, b)⟩ (yielded ops T) = true := by
    have h1 := hs _ _ hb
    have hlt : dg + 1 ≤ T.size := by rw [hT]; simpa [Nat.blt] using hN
    have h2 : T[dg]? = some (.bool b) := by
      rw [Array.getD_eq_getD_getElem?] at h1
      rw [Array.getElem?_eq_getElem hlt] at h1 ⊢
      simpa using h1
    simp [Region.wanted, yielded, hd, h2]
  refine .inl ⟨hw, .inr ⟨f, (fst.toList ++ vs ++ caps.toList).toArray, ?_, hR⟩⟩
  simp only [execOp, Sem.run_bind, run_resolve_value (ev_eval hs hf), Result.andThen_ok, hargs, invoke, he _ _, heq]
def DrawOkX (P : Program) (ops : Array Oper) (N : Nat) (D : List Deferred) (l : Env) (w : World) (K : Env → Prop) : Nat → Done → List Oper → Prop
  | _, done, [] => K (doneEnv done ++ l)
  | n, done, o :: r => ∃ v, (∀ w1, Ext w w1 → OpX P ops N D (doneEnv (leans o done) ++ l) w1 o v) ∧ DrawOkX P ops N D l w K (n + 1) ((n, o.dst, v) :: done) r
theorem DrawOkX.valsX {K : Env → Prop} : ∀ {o : List Oper} {n : Nat} {done : Done}, DrawOkX P ops N D l w K n done o →
    ∃ vs : List Value, vs.length = o.length ∧ K (doneEnv (((o.zip vs).zipIdx n).reverse.map (fun x => (x.2, x.1.1.dst, x.1.2)) ++ done) ++ l) ∧
      ∀ i x v, o[i]? = some x → vs[i]? = some v → ∀ w1, Ext w w1 → OpX P ops N D (doneEnv (leans x (((o.take i).zip (vs.take i)).zipIdx n |>.reverse.map (fun x => (x.2, x.1.1.dst, x.1.2)) |>.append done)) ++ l) w1 x v
  | [], n, done, h => ⟨[], rfl, by simpa [DrawOkX] using h, fun i x v hx => by simp at hx⟩
  | y :: r, n, done, h => by
    obtain ⟨v, h1, h2⟩ := h
    obtain ⟨vs, g1, g2, g3⟩ := DrawOkX.valsX h2
    refine ⟨v :: vs, by simp [g1], ?_, ?_⟩
    · simpa using g2
    · intro i x u hx hu
      cases i with
      | zero =>
        have e1 : y = x := by simpa using hx
        have e2 : v = u := by simpa using hu
        subst e1 e2
        simpa using h1
      | succ i =>
        have := g3 i x u (by simpa using hx) (by simpa using hu)
        simpa using this

/-- WHATEVER THE ORDER, calls among them that leave what there was: each gives its value in whatever world has come of the first. -/
theorem anyDrawX {o : List Oper} (hnd : nodupB (dstsOf' o) = true) (hap : apartB l (dstsOf' o) = true) (hback : backB 0 o = true) (hN : dstsOkB N o = true)
    (h : DrawOkX P o.toArray N D l w.drew (fun l' => ∀ w', Ext w.drew w' → St N D l' (Q .normal) w') 0 [] o) : ∀ T : Array Value, T.size = N → Slots T l → wpAny P .any o.toArray Q o.length (Array.replicate o.length false) ⟨T, D⟩ w.drew := by
  obtain ⟨vs, hlen, hK, hv⟩ := h.valsX
  have hnd' := nodupB_spec hnd
  have hap' := apartB_spec hap
  have hback' : ∀ (i : Nat) (x : Oper), o[i]? = some x → ∀ e ∈ x.after, Region.binds .any e = true → e.on < i := fun i x hx e he hbd => by
    have := backB_spec hback i x hx e he hbd
    omega
  have hdst : ∀ (i : Nat) (x : Oper), o[i]? = some x → dstOk N x.dst = true := fun i x hx => List.all_eq_true.1 hN x (List.mem_of_getElem? hx)
  have main : ∀ (fuel : Nat) (listed : Array Bool) (T : Array Value) (w1 : World), Ext w.drew w1 → listed.size = o.length → listed.toList.count false ≤ fuel → T.size = N → Slots T l →
      (∀ (i : Nat) (x : Oper) (v : Value) (d : Nat), listed[i]? = some true → o[i]? = some x → vs[i]? = some v → x.dst = some d → T.getD d undef = v) → wpAny P .any o.toArray Q fuel listed ⟨T, D⟩ w1 := by
    intro fuel
    induction fuel with
    | zero =>
      intro listed T w1 hw1 hsz hcnt hT hs hI
      have hall : ∀ i, i < o.length → listed[i]? = some true := by
        intro i hi
        have hx : listed[i]? = some (listed[i]'(by omega)) := Array.getElem?_eq_getElem (by omega)
        cases hb : listed[i]'(by omega) with
        | true => rw [hx, hb]
        | false =>
          have : false ∈ listed.toList := by
            rw [← hb, Array.mem_toList_iff]; exact Array.getElem_mem _
          have := List.count_pos_iff.2 this
          omega
      refine ⟨?_, hK w1 hw1 T hT ?_⟩
      · unfold Region.ready
        rw [List.filter_eq_nil_iff]
        intro i hi
        rw [List.mem_range] at hi
        have := hall i (by simpa using hi)
        simp [Array.getD_eq_getD_getElem?, this]
      · intro k v hk
        rw [List.append_nil, look_append] at hk
        split at hk
        · rename_i u hu
          injection hk with hk; subst hk
          obtain ⟨i, hi⟩ := look_doneEnv hu
          obtain ⟨_, x, h1, h2, h3⟩ := mem_zipDone hi
          exact hI (i - 0) x u k (hall _ (lt_of_get' h1)) h1 h3 h2
        · exact hs k v hk
    | succ fuel ih =>
      intro listed T w1 hw1 hsz hcnt hT hs hI
      refine ⟨fun hr => ?_, fun i hi => ?_⟩
      · have hall : ∀ i, i < o.length → listed[i]? = some true := by
          intro i
          induction i using Nat.strongRecOn with
          | _ i ihi =>
            intro hi
            have hx : listed[i]? = some (listed[i]'(by omega)) := Array.getElem?_eq_getElem (by omega)
            cases hb : listed[i]'(by omega) with
            | true => rw [hx, hb]
            | false =>
              exfalso
              have hmem : i ∈ Region.ready .any o.toArray listed := by
                unfold Region.ready
                rw [List.mem_filter]
                refine ⟨by simpa using hi, ?_⟩
                have ho : o.toArray[i]? = some o[i] := by simp [hi]
                simp only [ho, Option.map_some, Option.getD_some, Array.getD_eq_getD_getElem?, hx, hb, Bool.not_false, Bool.true_and]
                rw [Array.all_eq_true']
                intro e he
                cases hbd : Region.binds .any e with
                | false => rfl
                | true =>
                  have g2 := hback' i o[i] (List.getElem?_eq_getElem hi) e he hbd
                  have := ihi e.on g2 (by omega)
                  simp [this]
              rw [hr] at hmem
              simp at hmem
        refine hK w1 hw1 T hT ?_
        intro k v hk
        rw [List.append_nil, look_append] at hk
        split at hk
        · rename_i u hu
          injection hk with hk; subst hk
          obtain ⟨i, hi⟩ := look_doneEnv hu
          obtain ⟨_, x, h1, h2, h3⟩ := mem_zipDone hi
          exact hI (i - 0) x u k (hall _ (lt_of_get' h1)) h1 h3 h2
        · exact hs k v hk
      · unfold Region.ready at hi
        rw [List.mem_filter, List.mem_range] at hi
        obtain ⟨hi1, hi2⟩ := hi
        have hi1' : i < o.length := by simpa using hi1
        have ho : o.toArray[i]? = some o[i] := by simp [hi1']
        have hx : o[i]? = some o[i] := List.getElem?_eq_getElem hi1'
        simp only [ho, Option.map_some, Option.getD_some, Bool.and_eq_true] at hi2
        obtain ⟨hu, hp⟩ := hi2
        have hlt : i < listed.size := by omega
        have hf : listed[i]? = some false := by
          rw [Array.getD_eq_getD_getElem?, Array.getElem?_eq_getElem hlt] at hu
          rw [Array.getElem?_eq_getElem hlt]
          simpa using hu
        obtain ⟨v, hvi⟩ : ∃ v, vs[i]? = some v := ⟨vs[i]'(by omega), List.getElem?_eq_getElem (by omega)⟩
        have hpre : ∀ e ∈ o[i].after, Region.binds .any e = true → listed[e.on]? = some true := by
          intro e he hbd
          rw [Array.all_eq_true'] at hp
          have h1 := hp e he
          have g2 := hback' i o[i] hx e he hbd
          rw [hbd] at h1
          have hl2 : e.on < listed.size := by omega
          rw [Array.getD_eq_getD_getElem?, Array.getElem?_eq_getElem hl2] at h1
          rw [Array.getElem?_eq_getElem hl2]
          simpa using h1
        have hok := hv i o[i] v hx hvi w1 hw1 T hT (by
          intro k u hk
          rw [look_append] at hk
          split at hk
          · rename_i u' hu'
            injection hk with hk; subst hk
            obtain ⟨j, hj⟩ := look_doneEnv hu'
            obtain ⟨hj1, e, he, hbd, hej⟩ := mem_leans hj
            dsimp only at hej
            have hj2 : (j, some k, u') ∈ (((o.take i).zip (vs.take i)).zipIdx 0).reverse.map (fun x => (x.2, x.1.1.dst, x.1.2)) := by simpa using hj1
            obtain ⟨_, x, h1, h2, h3⟩ := mem_zipDone hj2
            rw [Nat.sub_zero] at h1 h3
            have hji : j < i := by
              have := lt_of_get' h1
              simp at this; omega
            rw [List.getElem?_take_of_lt hji] at h1 h3
            exact hI j x u' k (by rw [← hej]; exact hpre e he hbd) h1 h3 h2
          · exact hs k u hk)
        have hcnt' : (listed.setIfInBounds i true).toList.count false ≤ fuel := by
          rw [Array.toList_setIfInBounds, List.count_set (by simpa using hlt)]
          have : listed.toList[i]'(by simpa using hlt) = false := by
            have h2 := hf
            rw [Array.getElem?_eq_getElem hlt] at h2
            simpa using h2
          have hpos : 0 < listed.toList.count false := List.count_pos_iff.2 (by rw [← this]; exact List.getElem_mem _)
          rw [this]
          have e1 : (if (false == false) = true then 1 else 0) = 1 := rfl
          have e2 : (if (true == false) = true then 1 else 0) = 0 := rfl
          rw [e1, e2]; omega
        have hnext : ∀ T' w2, Ext w.drew w2 → T'.size = N → Slots T' l → (∀ d, o[i].dst = some d → T'.getD d undef = v) → (∀ k, (∀ d, o[i].dst = some d → k ≠ d) → T'.getD k undef = T.getD k undef) →
            wpAny P .any o.toArray Q fuel (listed.setIfInBounds i true) ⟨T', D⟩ w2 := by
          intro T' w2 hw2 hT' hs' hd' hk'
          refine ih _ T' w2 hw2 (by simpa using hsz) hcnt' hT' hs' ?_
          intro j x u d hj hjx hju hjd
          by_cases hji : j = i
          · subst hji
            rw [hx] at hjx
            injection hjx with hjx; subst hjx
            rw [hvi] at hju
            injection hju with hju; subst hju
            exact hd' d hjd
          · rw [Array.getElem?_setIfInBounds_ne (fun e => hji e.symm)] at hj
            rw [hk' d (fun d' hd2 e => hji (by subst e; exact dsts_inj hnd' hjx hx hjd hd2))]
            exact hI j x u d hj hjx hju hjd
        obtain ⟨T', h1, h2, h3⟩ := hs.putE (D := D) (d := o[i].dst) (by rw [hT]; exact hdst i _ hx) v
        have hput : ∀ T2, Act.put ⟨T, D⟩ o[i].dst v = ⟨T2, D⟩ → T2.size = T.size → (∀ d, o[i].dst = some d → T2.getD d undef = v) ∧ (∀ k, (∀ d, o[i].dst = some d → k ≠ d) → T2.getD k undef = T.getD k undef) ∧ Slots T2 l := by
          intro T2 e1 e2
          cases hd : o[i].dst with
          | none =>
            rw [hd] at e1
            simp only [Act.put, Act.mk.injEq] at e1
            obtain ⟨rfl, _⟩ := e1
            exact ⟨fun d h => by simp at h, fun _ _ => rfl, hs⟩
          | some d =>
            rw [hd] at e1
            simp only [Act.put, Act.mk.injEq] at e1
            obtain ⟨rfl, _⟩ := e1
            have hd2 : d < T.size := by
              have := hdst i _ hx
              rw [hd] at this
              have h3 : d + 1 ≤ N := by simpa [dstOk, Nat.blt] using this
              rw [hT]; exact h3
            have hother : ∀ k, k ≠ d → (T.setIfInBounds d v).getD k undef = T.getD k undef := fun k hk => by
              simp [Array.getD_eq_getD_getElem?, Array.getElem?_setIfInBounds_ne (Ne.symm hk)]
            refine ⟨fun d' h => ?_, fun k hk => hother k (hk d rfl), fun k u hk => ?_⟩
            · injection h with h; subst h
              simp [Array.getD_eq_getD_getElem?, hd2]
            · have hne : k ≠ d := fun e => by
                subst e
                exact hap' k u hk (mem_dstsOf hx hd)
              rw [hother k hne]; exact hs k u hk
        obtain ⟨p1, p2, p3⟩ := hput T' h1 h2
        unfold wpOp
        simp only [ho]
        rcases hok with ⟨hw, hr⟩ | ⟨hw, hr⟩
        · rw [if_pos hw]
          refine .inl ?_
          unfold Oper.wp
          rcases hr with hr | ⟨f, args, hr, hret⟩
          · rw [hr, Oper.upon_value, h1]
            exact hnext T' w1 hw1 (h2.trans hT) p3 p1 p2
          · rw [hr, Oper.upon_enter]
            refine Calls.mono hret ?_
            rintro e w2 ⟨u, rfl, rfl, hw2⟩
            simp only [h1]
            exact hnext T' w2 (Ext.trans hw1 hw2) (h2.trans hT) p3 p1 p2
        · subst hr
          rw [if_neg (by rw [hw]; simp), h1]
          exact hnext T' w1 hw1 (h2.trans hT) p3 p1 p2
  intro T hT hs
  refine main o.length (Array.replicate o.length false) T _ (Ext.refl _) (by simp) (by simp) hT hs ?_
  intro i x v d hi
  rw [Array.getElem?_replicate] at hi
  split at hi <;> simp at hi

theorem St.draw {id : Nat} {o : List Oper} (hm : P.follows .mixedOrders = true) (hnd : nodupB (dstsOf' o) = true) (hap : apartB l (dstsOf' o) = true) (hback : backB 0 o = true) (hN : dstsOkB N o = true)
    (h : DrawOk P o.toArray N D l w.drew (fun l' => St N D l' (Q .normal) w.drew) 0 [] o) : St N D l (wpr none P (Code.region id o.toArray true) Q) w := fun T hT hs =>
  wpr_none.2 (wp_region_any hm (by rw [List.size_toArray]; exact anyDraw hnd hap hback hN h T hT hs))
theorem St.drawX {id : Nat} {o : List Oper} (hm : P.follows .mixedOrders = true) (hnd : nodupB (dstsOf' o) = true) (hap : apartB l (dstsOf' o) = true) (hback : backB 0 o = true) (hN : dstsOkB N o = true)
    (h : DrawOkX P o.toArray N D l w.drew (fun l' => ∀ w', Ext w.drew w' → St N D l' (Q .normal) w') 0 [] o) : St N D l (wpr none P (Code.region id o.toArray true) Q) w := fun T hT hs =>
  wpr_none.2 (wp_region_any hm (by rw [List.size_toArray]; exact anyDrawX hnd hap hback hN h T hT hs))
/-- An assignment that comes last: what it writes the others may read. -/
theorem St.last {y : Operand} {d : Tmp} {v : Value} (hv : ev l y = some v) (hd : Nat.blt d N = true) (h : St N D ((d, v) :: l) (Q .normal) w) : St N D l (Last d y Q .normal) w := fun T hT hs => by
  show Q .normal (Act.put ⟨T, D⟩ (some d) (Act.eval ⟨T, D⟩ y)) w
  rw [ev_eval hs hv]
  have hd' : d + 1 ≤ N := by simpa [Nat.blt] using hd
  exact h _ (by simpa using hT) (hs.put (by rw [hT]; exact hd') v)
theorem region_last {o : List Oper} {d : Tmp} {y : Operand} {ty : TypeId} {pos : String} {af : Array Edge} (hm : P.follows .mixedOrders = true) (hx : o.getLast? = some ⟨some d, .assign y, ty, pos, af, none⟩) (hok : lastOk o.dropLast af = true) (hback : backB 0 o.dropLast = true)
    {id : Nat} (h : ∀ T : Array Value, T.size = N → Slots T l → wpAny P .any o.dropLast.toArray (Last d y Q) o.dropLast.length (Array.replicate o.dropLast.length false) ⟨T, D⟩ w.drew) : St N D l (wpr none P (Code.region id o.toArray true) Q) w := fun T hT hs => by
  have ho : o.dropLast ++ [(⟨some d, .assign y, ty, pos, af, none⟩ : Oper)] = o := by
    obtain ⟨ys, rfl⟩ := List.getLast?_eq_some_iff.1 hx
    rw [List.dropLast_concat]
  refine wpr_none.2 (wp_region_any hm ?_)
  have h2 := wpAny_last (ty := ty) (pos := pos) hok hback _ _ _ _ (by simp) (h T hT hs)
  have e1 : o.toArray.size = o.dropLast.length + 1 := by rw [List.size_toArray]; conv => lhs; rw [← ho]
                                                         simp
  have e2 : Array.replicate o.toArray.size false = (Array.replicate o.dropLast.length false).push false := by rw [e1, Array.replicate_succ]
  rw [ho] at h2
  rw [e2, e1]
  exact h2
end
end Go.Proofs.YtjgcmpondbocfaaGreatDoor
