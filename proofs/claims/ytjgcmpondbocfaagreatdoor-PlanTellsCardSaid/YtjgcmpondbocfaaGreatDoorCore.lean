/- The walk's own words: a state is a list of slots that hold something, beside a world; one rule for each operation. No condition. -/
import Derived.Tactics
import Derived.Tactics2
import Derived.Below
import Derived.Orders
import Derived.Laws.Sem
import Derived.Laws.World
import Derived.Laws.Strings
import Derived.Laws.BitsLemmas
import Derived.KernelRfl
import Derived.TacticsIn
import Derived.RangeFuncLeaves
namespace Go.Proofs.YtjgcmpondbocfaaGreatDoor
open Go.RowKit

/-! ### 1. Slots -/
abbrev Env := List (Nat × Value)

def look : Env → Nat → Option Value
  | [], _ => none
  | (k, v) :: r, n => match Nat.beq k n with
    | true => some v
    | false => look r n

def Slots (T : Array Value) (l : Env) : Prop := ∀ k v, look l k = some v → T.getD k undef = v

theorem look_cons (k : Nat) (v : Value) (r : Env) (n : Nat) : look ((k, v) :: r) n = if k = n then some v else look r n := by
  by_cases h : k = n
  · subst h; simp [look]
  · have : Nat.beq k n = false := by
      cases hb : Nat.beq k n with
      | false => rfl
      | true => exact absurd (Nat.eq_of_beq_eq_true hb) h
    simp [look, this, h]

theorem Slots.put {T : Array Value} {l : Env} (h : Slots T l) {d : Nat} (hd : d < T.size) (v : Value) : Slots (T.setIfInBounds d v) ((d, v) :: l) := by
  intro k u hk
  rw [look_cons] at hk
  split at hk
  · rename_i e; subst e
    injection hk with hk; subst hk
    simp [Array.getD_eq_getD_getElem?, hd]
  · rename_i e
    rw [← h k u hk]
    simp [Array.getD_eq_getD_getElem?, e]

def ev (l : Env) : Operand → Option Value
  | .tmp t => look l t
  | .const v => some v
  | .global g => some (.pointer (some ⟨g, 0, none⟩))
  | .func f => some (.func (.func f) #[] #[])

theorem ev_eval {T : Array Value} {l : Env} {D : List Deferred} (h : Slots T l) {x : Operand} {v : Value} (hx : ev l x = some v) : Act.eval ⟨T, D⟩ x = v := by
  cases x with
  | tmp t => exact h t v hx
  | const u => injection hx
  | global g => injection hx
  | func f => injection hx

def evs (l : Env) : List Operand → Option (List Value)
  | [] => some []
  | x :: r => match ev l x with
    | none => none
    | some v => match evs l r with
      | none => none
      | some vs => some (v :: vs)

theorem evs_eval {T : Array Value} {l : Env} {D : List Deferred} (h : Slots T l) : ∀ {xs : List Operand} {vs : List Value}, evs l xs = some vs → xs.map (Act.eval ⟨T, D⟩) = vs
  | [], vs, hx => by simp only [evs, Option.some.injEq] at hx; subst hx; rfl
  | x :: r, vs, hx => by
    simp only [evs] at hx
    split at hx
    · cases hx
    · rename_i v hv
      split at hx
      · cases hx
      · rename_i us hus
        injection hx with hx; subst hx
        rw [List.map_cons, ev_eval h hv, evs_eval h hus]

/-- 'l' holds all that 'm' says. -/
def Cov (l : Env) : Env → Prop
  | [] => True
  | (k, v) :: r => look l k = some v ∧ Cov l r

theorem Cov.slots {T : Array Value} {l : Env} (h : Slots T l) : ∀ {m : Env}, Cov l m → Slots T m
  | [], _ => fun k v hk => by simp [look] at hk
  | (j, u) :: r, ⟨h1, h2⟩ => fun k v hk => by
    rw [look_cons] at hk
    split at hk
    · rename_i e; subst e
      injection hk with hk; subst hk
      exact h _ _ h1
    · exact Cov.slots h h2 k v hk

theorem look_int {l : Env} {k : Nat} {kd : IntKind} {a b : Int} (h : look l k = some (.int kd a)) (e : a = b) : look l k = some (.int kd b) := by rw [h, e]
theorem look_eq {l : Env} {k : Nat} {a b : Value} (h : look l k = some a) (e : a = b) : look l k = some b := by rw [h, e]

/-! ### 2a. What a piece of code comes to, in a frame of its own or in a round of a loop over a function -/
def fen (ro : Option Nat) : Fence := { Fence.wide with round := ro }
theorem fen_room (ro : Option Nat) (n : Nat) : (fen ro).room n := fun _ h => by cases h
def wpr (ro : Option Nat) (P : Program) (c : Code) (Q : Exit → Act → World → Prop) (a : Act) (w : World) : Prop := c.wpIn (fen ro) 0 P Q a w
def wpl (ro : Option Nat) (P : Program) (ops : Array Oper) (Q : Exit → Act → World → Prop) (l : List Oper) (a : Act) (w : World) : Prop := wpListIn (fen ro) 0 P ops Q l a w
def opr (ro : Option Nat) (P : Program) (o : Oper) (a : Act) (w : World) (K : Act → World → Prop) (Q : Exit → Act → World → Prop) : Prop := o.wpIn (fen ro) 0 P a w K Q
section
variable {ro : Option Nat} {P : Program} {Q : Exit → Act → World → Prop} {a : Act} {w : World} {ops : Array Oper} {rest : List Oper} {o : Oper} {K : Act → World → Prop}
theorem wpr_none {c : Code} : wpr none P c Q a w ↔ c.wp P Q a w := wpIn_wide
theorem wpr_mono {c : Code} {Q' : Exit → Act → World → Prop} (hq : ∀ e a w, Q e a w → Q' e a w) (h : wpr ro P c Q a w) : wpr ro P c Q' a w := wpIn_mono h hq
theorem wpr_seq_k {x y : Code} (h : ∀ K : Act → World → Prop, (∀ a w, wpr ro P y Q a w → K a w) → wpr ro P x (Exit.then K Q) a w) : wpr ro P (.seq x y) Q a w := wpIn_seq_k h
theorem wpr_skip (h : Q .normal a w) : wpr ro P .skip Q a w := wpIn_skip h
theorem wpr_exit {id : Nat} (h : Q (.exit id) a w) : wpr ro P (.exit id) Q a w := wpIn_exit h
theorem wpr_ret (h : Q .ret a w) : wpr ro P .ret Q a w := wpIn_ret h
theorem wpr_block {id : Nat} {c : Code} (h : wpr ro P c (Exit.inBlock id Q) a w) : wpr ro P (.block id c) Q a w := wpIn_block h
theorem wpr_cond_split {c : Operand} {x y : Code} {t : Bool} (hc : a.eval c = .bool t) (h1 : t = true → wpr ro P x Q a w) (h2 : t = false → wpr ro P y Q a w) : wpr ro P (.cond c x y) Q a w := wpIn_cond_split hc h1 h2
theorem wpr_cond_true {c : Operand} {x y : Code} (hc : a.eval c = .bool true) (h : wpr ro P x Q a w) : wpr ro P (.cond c x y) Q a w := wpIn_cond_true hc h
theorem wpr_cond_false {c : Operand} {x y : Code} (hc : a.eval c = .bool false) (h : wpr ro P y Q a w) : wpr ro P (.cond c x y) Q a w := wpIn_cond_false hc h
theorem wpr_region_lit {id : Nat} {l : List Oper} (h : wpl ro P l.toArray Q l a w) : wpr ro P (.region id l.toArray false) Q a w := wpIn_region_lit h
theorem wpl_nil (h : Q .normal a w) : wpl ro P ops Q [] a w := wpListIn_nil h
theorem wpl_plain (hg : o.guard = none) (h : ∀ K : Act → World → Prop, (∀ a w, wpl ro P ops Q rest a w → K a w) → opr ro P o a w K Q) : wpl ro P ops Q (o :: rest) a w := wpListIn_plain hg h
theorem wpl_wanted (hw : Region.wanted o (yielded ops a.tmps) = true) : wpl ro P ops Q (o :: rest) a w ↔ opr ro P o a w (wpl ro P ops Q rest) Q := by
  unfold wpl; rw [wpListIn, if_pos hw]; rfl
theorem wpl_unwanted (hw : Region.wanted o (yielded ops a.tmps) = false) (h : wpl ro P ops Q rest (a.put o.dst undef) w) : wpl ro P ops Q (o :: rest) a w := by
  unfold wpl; rw [wpListIn, if_neg (by rw [hw]; simp)]; exact ⟨fun _ _ => trivial, h⟩
theorem semAt_of {ρ : Operand → Value} {x : Next} {w' : World} (h : (execOp ρ o).run P w = .ok x w') (hx : ∀ d, x ≠ .defer d) : (o.semAt ro ρ).run P w = .ok x w' := by
  rw [Oper.semAt_eq]
  · exact h
  · intro c hc
    unfold execOp at h
    rw [hc] at h
    simp only [Sem.run_bind, Sem.run_pure] at h
    cases hr : (resolve ρ c o.type).run P w with
    | ok d w1 => rw [hr] at h; simp only [Result.andThen_ok] at h; injection h with h1 _; exact hx _ h1.symm
    | halt z w1 => rw [hr] at h; cases h
theorem opr_value {v : Value} {w' : World} (hr : (execOp a.eval o).run P w = .ok (.value v) w') (h : K (a.put o.dst v) w') : opr ro P o a w K Q := by
  refine ⟨fun _ _ => trivial, ?_⟩
  show o.uponIn _ _ P a K Q ((o.semAt ro a.eval).run P w)
  rw [semAt_of hr (fun d e => by cases e), Oper.uponIn_value]; exact h
theorem opr_skip {w' : World} (hr : (execOp a.eval o).run P w = .ok .skip w') (h : K (a.put o.dst undef) w') : opr ro P o a w K Q := by
  refine ⟨fun _ _ => trivial, ?_⟩
  show o.uponIn _ _ P a K Q ((o.semAt ro a.eval).run P w)
  rw [semAt_of hr (fun d e => by cases e), Oper.uponIn_skip]; exact h
theorem callsIn_fen {n : Nat} {f : FuncId} {args : Array Value} {R : Ending → World → Prop} : CallsIn (fen ro) n P f args w R ↔ Calls P f args w R :=
  ⟨fun h => CallsIn.calls h (fun k => fen_room ro k), fun h => ⟨trivial, fun cs _ => ((callsIn_wide (n := n)).2 h).2 cs (room_wide _)⟩⟩
theorem opr_enter {f : FuncId} {args : Array Value} {w' : World} (hr : (execOp a.eval o).run P w = .ok (.enter f args) w') (h : Calls P f args w' fun e w'' => ∃ v, e = .returned v ∧ K (a.put o.dst v) w'') : opr ro P o a w K Q := by
  refine ⟨fun _ _ => trivial, ?_⟩
  show o.uponIn _ _ P a K Q ((o.semAt ro a.eval).run P w)
  rw [semAt_of hr (fun d e => by cases e), Oper.uponIn_enter]
  refine ⟨(fun h => by cases h), callsIn_fen.2 (Calls.mono h ?_)⟩
  rintro e w'' ⟨v, rfl, hk⟩
  exact hk
end

/-! ### 2. The state -/
def St (N : Nat) (D : List Deferred) (l : Env) (φ : Act → World → Prop) (w : World) : Prop := ∀ T : Array Value, T.size = N → Slots T l → φ ⟨T, D⟩ w

section
variable {ro : Option Nat} {P : Program} {N : Nat} {D : List Deferred} {l : Env} {w : World} {Q : Exit → Act → World → Prop} {ops : Array Oper} {rest : List Oper}

theorem St.weak {φ : Act → World → Prop} (m : Env) (hc : Cov l m) (h : St N D m φ w) : St N D l φ w := fun T hT hs => h T hT (Cov.slots hs hc)

theorem St.mono {φ ψ : Act → World → Prop} (h : St N D l φ w) (hp : ∀ a w, φ a w → ψ a w) : St N D l ψ w := fun T hT hs => hp _ _ (h T hT hs)

theorem St.seq {x y : Code} (h : ∀ K : Act → World → Prop, (∀ a w, wpr ro P y Q a w → K a w) → St N D l (wpr ro P x (Exit.then K Q)) w) : St N D l (wpr ro P (Code.seq x y) Q) w :=
  fun T hT hs => wpr_seq_k fun K hK => h K hK T hT hs

/-- Where ways meet: the rest is walked once, from what holds on each of them. -/
theorem St.seqJ {α : Type} {x y : Code} (L : α → Env) (I : α → World → Prop) (hJ : ∀ a w, I a w → St N D (L a) (wpr ro P y Q) w) (h : ∀ K : Act → World → Prop, (∀ a w, I a w → St N D (L a) K w) → St N D l (wpr ro P x (Exit.then K Q)) w) : St N D l (wpr ro P (Code.seq x y) Q) w :=
  fun T hT hs => wpr_seq_k fun K hK => h K (fun a w hI T hT hs => hK _ _ (hJ a w hI T hT hs)) T hT hs
theorem St.meet {K : Act → World → Prop} {α : Type} {L : α → Env} {I : α → World → Prop} (hK : ∀ a w, I a w → St N D (L a) K w) (a : α) (hc : Cov l (L a)) (hI : I a w) : St N D l K w := St.weak (L a) hc (hK a w hI)

theorem St.go {K φ : Act → World → Prop} (hK : ∀ a w, φ a w → K a w) (h : St N D l φ w) : St N D l K w := fun T hT hs => hK _ _ (h T hT hs)

theorem St.skip (h : St N D l (Q .normal) w) : St N D l (wpr ro P Code.skip Q) w := fun T hT hs => wpr_skip (h T hT hs)
theorem St.exit {id : Nat} (h : St N D l (Q (.exit id)) w) : St N D l (wpr ro P (Code.exit id) Q) w := fun T hT hs => wpr_exit (h T hT hs)
theorem St.ret (h : St N D l (Q .ret) w) : St N D l (wpr ro P Code.ret Q) w := fun T hT hs => wpr_ret (h T hT hs)
theorem St.block {id : Nat} {c : Code} (h : St N D l (wpr ro P c (Exit.inBlock id Q)) w) : St N D l (wpr ro P (Code.block id c) Q) w := fun T hT hs => wpr_block (h T hT hs)

theorem St.cond {c : Operand} {x y : Code} {b : Bool} (hc : ev l c = some (.bool b)) (h1 : b = true → St N D l (wpr ro P x Q) w) (h2 : b = false → St N D l (wpr ro P y Q) w) :
    St N D l (wpr ro P (Code.cond c x y) Q) w :=
  fun T hT hs => wpr_cond_split (ev_eval hs hc) (fun e => h1 e T hT hs) (fun e => h2 e T hT hs)
theorem St.condT {c : Operand} {x y : Code} (hc : ev l c = some (.bool true)) (h1 : St N D l (wpr ro P x Q) w) : St N D l (wpr ro P (Code.cond c x y) Q) w :=
  fun T hT hs => wpr_cond_true (ev_eval hs hc) (h1 T hT hs)
theorem St.condF {c : Operand} {x y : Code} (hc : ev l c = some (.bool false)) (h1 : St N D l (wpr ro P y Q) w) : St N D l (wpr ro P (Code.cond c x y) Q) w :=
  fun T hT hs => wpr_cond_false (ev_eval hs hc) (h1 T hT hs)
theorem St.condD {c : Operand} {x y : Code} {p : Prop} [Decidable p] (hc : ev l c = some (.bool (decide p))) (h1 : p → St N D l (wpr ro P x Q) w) (h2 : ¬ p → St N D l (wpr ro P y Q) w) :
    St N D l (wpr ro P (Code.cond c x y) Q) w :=
  St.cond hc (fun e => h1 (of_decide_eq_true e)) (fun e => h2 (of_decide_eq_false e))

-- ends
theorem St.then_n {K : Act → World → Prop} (h : St N D l K w) : St N D l (Exit.then K Q .normal) w := h
theorem St.then_r {K : Act → World → Prop} (h : St N D l (Q .ret) w) : St N D l (Exit.then K Q .ret) w := h
theorem St.then_x {K : Act → World → Prop} {id : Nat} (h : St N D l (Q (.exit id)) w) : St N D l (Exit.then K Q (.exit id)) w := h
theorem St.in_n {id : Nat} (h : St N D l (Q .normal) w) : St N D l (Exit.inBlock id Q .normal) w := h
theorem St.in_r {id : Nat} (h : St N D l (Q .ret) w) : St N D l (Exit.inBlock id Q .ret) w := h
theorem St.in_x {id : Nat} (h : St N D l (Q .normal) w) : St N D l (Exit.inBlock id Q (.exit id)) w := fun T hT hs => by
  show (if id = id then Q .normal ⟨T, D⟩ w else Q (.exit id) ⟨T, D⟩ w)
  rw [if_pos rfl]; exact h T hT hs
theorem St.in_y {id j : Nat} (hne : Nat.beq j id = false) (h : St N D l (Q (.exit j)) w) : St N D l (Exit.inBlock id Q (.exit j)) w := fun T hT hs => by
  have : j ≠ id := by intro e; subst e; simp at hne
  show (if j = id then Q .normal ⟨T, D⟩ w else Q (.exit j) ⟨T, D⟩ w)
  rw [if_neg this]; exact h T hT hs

/-- A loop by an invariant that bears its measure. -/
theorem wp_loop_ix {c : Code} {a : Act} (J : Nat → Act → World → Prop) (n : Nat) (h₀ : J n a w)
    (round : ∀ n a w, J n a w → wpr ro P c (Exit.then (fun a' w' => ∃ m, m < n ∧ J m a' w') Q) a w) : wpr ro P (Code.loop c) Q a w := by
  intro b k cs hro hb hr
  have key : ∀ n a w, J n a w →
      ∃ e a' w', Q e a' w' ∧ ArrivesIn (Machine.fenced P (fen ro)) P (lone (b.atR a (.code c :: .inLoop c :: k)) cs w) b k cs e a' w' := by
    intro n
    induction n using Nat.strongRecOn with
    | _ n ih =>
      intro a w hI
      obtain ⟨e, a₁, w₁, hq, harr⟩ := round n a w hI b (.inLoop c :: k) cs hro hb hr
      cases e with
      | normal =>
        obtain ⟨m, hlt, hJ⟩ := hq
        obtain ⟨e₂, a₂, w₂, hq₂, harr₂⟩ := ih m hlt a₁ w₁ hJ
        exact ⟨e₂, a₂, w₂, hq₂, .of_steps (StepsIn.trans harr (.one (fenced_calm hb hr rfl) stepR_inLoop)) harr₂⟩
      | exit id => exact ⟨_, a₁, w₁, hq, .pass (x := .inLoop c) rfl (fun _ _ => .inl (by simp)) harr⟩
      | goto l => exact ⟨_, a₁, w₁, hq, .pass (x := .inLoop c) rfl (fun _ _ => .inl (by simp)) harr⟩
      | ret => exact ⟨_, a₁, w₁, hq, .pass (x := .inLoop c) rfl (fun _ _ => .inl (by simp)) harr⟩
      | panic ch => exact ⟨_, a₁, w₁, hq, .pass (x := .inLoop c) rfl (fun _ _ => .inl (by simp)) harr⟩
      | outgrown => exact ⟨_, a₁, w₁, hq, .pass (x := .inLoop c) rfl (fun _ _ => .inl (by simp)) harr⟩
  obtain ⟨e, a', w', hq, harr⟩ := key n a w h₀
  exact ⟨e, a', w', hq, .of_steps (.one (fenced_calm hb hr rfl) stepR_loop) harr⟩

/-- What a round must come to. -/
def Round {α : Type} (N : Nat) (D : List Deferred) (L : α → Env) (I : α → World → Prop) (μ : α → Nat) (n : Nat) (a : Act) (w : World) : Prop :=
  ∃ x, a.tmps.size = N ∧ a.defers = D ∧ Slots a.tmps (L x) ∧ I x w ∧ μ x < n

/-- A LOOP: what holds of the slots and of the world at each round's head, under a ghost; a measure. -/
theorem St.loop {α : Type} {c : Code} (L : α → Env) (I : α → World → Prop) (μ : α → Nat) (x0 : α) (hc : Cov l (L x0)) (hI : I x0 w)
    (round : ∀ x w, I x w → St N D (L x) (wpr ro P c (Exit.then (Round N D L I μ (μ x)) Q)) w) : St N D l (wpr ro P (Code.loop c) Q) w := by
  intro T hT hs
  refine wp_loop_ix (fun n a w => ∃ x, a.tmps.size = N ∧ a.defers = D ∧ Slots a.tmps (L x) ∧ I x w ∧ μ x = n) (μ x0) ⟨x0, hT, rfl, Cov.slots hs hc, hI, rfl⟩ ?_
  rintro n ⟨T, D'⟩ w ⟨x, h1, h2, h3, h4, h5⟩
  dsimp only at h1 h2 h3
  subst h2 h5
  refine wpr_mono (fun e a' w' hq => ?_) (round x w h4 T h1 h3)
  cases e with
  | normal =>
    obtain ⟨x', g1, g2, g3, g4, g5⟩ := hq
    exact ⟨μ x', g5, x', g1, g2, g3, g4, rfl⟩
  | _ => exact hq

theorem St.round {α : Type} {L : α → Env} {I : α → World → Prop} {μ : α → Nat} {n : Nat} (x : α) (hc : Cov l (L x)) (hI : I x w) (hm : μ x < n) :
    St N D l (Round N D L I μ n) w := fun _ hT hs => ⟨x, hT, rfl, Cov.slots hs hc, hI, hm⟩

/-! ### 3. Regions, operations -/
theorem St.region {id : Nat} {o : List Oper} (h : St N D l (wpl ro P o.toArray Q o) w) : St N D l (wpr ro P (Code.region id o.toArray false) Q) w :=
  fun T hT hs => wpr_region_lit (h T hT hs)

theorem St.nil (h : St N D l (Q .normal) w) : St N D l (wpl ro P ops Q []) w := fun T hT hs => wpl_nil (h T hT hs)

def putE (d : Option Tmp) (v : Value) (l : Env) : Env := match d with
  | some d => (d, v) :: l
  | none => l

def dstOk (N : Nat) : Option Tmp → Bool
  | some d => Nat.blt d N
  | none => true

theorem Slots.putE {T : Array Value} (h : Slots T l) {d : Option Tmp} (hd : dstOk T.size d = true) (v : Value) {D : List Deferred} :
    ∃ T', (Act.put ⟨T, D⟩ d v) = ⟨T', D⟩ ∧ T'.size = T.size ∧ Slots T' (putE d v l) := by
  cases d with
  | none => exact ⟨T, rfl, rfl, h⟩
  | some d =>
    refine ⟨T.setIfInBounds d v, rfl, by simp, h.put ?_ v⟩
    have h : d + 1 ≤ T.size := by simpa [dstOk, Nat.blt] using hd
    exact h

/-- Any operation that gives a value. -/
theorem St.val {o : Oper} {v : Value} {w' : World} (hg : o.guard = none) (hN : dstOk N o.dst = true)
    (hrun : ∀ T, T.size = N → Slots T l → (execOp (Act.eval ⟨T, D⟩) o).run P w = .ok (.value v) w') (k : St N D (putE o.dst v l) (wpl ro P ops Q rest) w') :
    St N D l (wpl ro P ops Q (o :: rest)) w := by
  intro T hT hs
  refine wpl_plain hg fun K hK => ?_
  refine opr_value (hrun T hT hs) ?_
  obtain ⟨T', h1, h2, h3⟩ := hs.putE (D := D) (d := o.dst) (by rw [hT]; exact hN) v
  rw [h1]
  exact hK _ _ (k T' (h2.trans hT) h3)

/-- The operation gives this value and leaves this world, whatever else the frame holds. -/
def Runs (P : Program) (N : Nat) (D : List Deferred) (l : Env) (w : World) (o : Oper) (v : Value) (w' : World) : Prop :=
  ∀ T : Array Value, T.size = N → Slots T l → (execOp (Act.eval ⟨T, D⟩) o).run P w = .ok (.value v) w'
theorem St.r {o : Oper} {v : Value} {w' : World} (hR : Runs P N D l w o v w') (hg : o.guard = none) (hN : dstOk N o.dst = true) (k : St N D (putE o.dst v l) (wpl ro P ops Q rest) w') :
    St N D l (wpl ro P ops Q (o :: rest)) w := St.val hg hN hR k

/-- Any operation that gives none. -/
theorem St.unit {o : Oper} {w' : World} (hg : o.guard = none) (hd : o.dst = none)
    (hrun : ∀ T, T.size = N → Slots T l → (execOp (Act.eval ⟨T, D⟩) o).run P w = .ok .skip w') (k : St N D l (wpl ro P ops Q rest) w') :
    St N D l (wpl ro P ops Q (o :: rest)) w := by
  intro T hT hs
  refine wpl_plain hg fun K hK => ?_
  refine opr_skip (hrun T hT hs) ?_
  rw [hd]
  exact hK _ _ (k T hT hs)

end
end Go.Proofs.YtjgcmpondbocfaaGreatDoor
