/- One rule for each operation that turns no memory. No condition. -/
import Derived.Test.YtjgcmpondbocfaaGreatDoorCore
namespace Go.Proofs.YtjgcmpondbocfaaGreatDoor
open Go.RowKit

section
variable {ro : Option Nat} {P : Program} {N : Nat} {D : List Deferred} {l : Env} {w : World} {Q : Exit → Act → World → Prop} {ops : Array Oper} {rest : List Oper}
variable {d : Option Tmp} {ty : TypeId} {pos : String} {af : Array Edge} {gd : Option (Nat × Bool)}

/-- A guard that is met: the operation is as one without. -/
theorem St.take {op : Op} {g dg : Nat} {b : Bool} (hd : (ops[g]?).bind (·.dst) = some dg) (hb : look l dg = some (.bool b))
    (h : St N D l (wpl ro P ops Q (⟨d, op, ty, pos, af, none⟩ :: rest)) w) (hN : Nat.blt dg N = true) : St N D l (wpl ro P ops Q (⟨d, op, ty, pos, af, some (g, b)⟩ :: rest)) w := by
  intro T hT hs
  have hw : Region.wanted ⟨d, op, ty, pos, af, some (g, b)⟩ (yielded ops T) = true := by
    have h1 := hs _ _ hb
    have hlt : dg + 1 ≤ T.size := by rw [hT]; simpa [Nat.blt] using hN
    have h2 : T[dg]? = some (.bool b) := by
      rw [Array.getD_eq_getD_getElem?] at h1
      rw [Array.getElem?_eq_getElem hlt] at h1 ⊢
      simpa using h1
    simp [Region.wanted, yielded, hd, h2]
  have h0 := h T hT hs
  rw [wpl_wanted hw]
  rw [wpl_wanted (by simp [Region.wanted])] at h0
  exact h0

/-- A guard that is not met. -/
theorem St.pass {op : Op} {g dg : Nat} {b c : Bool} (hd : (ops[g]?).bind (·.dst) = some dg) (hb : look l dg = some (.bool c)) (hne : (c == b) = false)
    (hN : dstOk N d = true) (hM : Nat.blt dg N = true) (h : St N D (putE d undef l) (wpl ro P ops Q rest) w) : St N D l (wpl ro P ops Q (⟨d, op, ty, pos, af, some (g, b)⟩ :: rest)) w := by
  intro T hT hs
  have hw : Region.wanted ⟨d, op, ty, pos, af, some (g, b)⟩ (yielded ops T) = false := by
    have h1 := hs _ _ hb
    have hlt : dg + 1 ≤ T.size := by rw [hT]; simpa [Nat.blt] using hM
    have h2 : T[dg]? = some (.bool c) := by
      rw [Array.getD_eq_getD_getElem?] at h1
      rw [Array.getElem?_eq_getElem hlt] at h1 ⊢
      simpa using h1
    simp only [Region.wanted, yielded, hd, Option.bind_some, h2]
    cases c <;> cases b <;> first | rfl | cases hne
  refine wpl_unwanted hw ?_
  obtain ⟨T', h1, h2, h3⟩ := hs.putE (D := D) (d := d) (by rw [hT]; exact hN) undef
  simp only [h1]
  exact h T' (h2.trans hT) h3

/-- A guard of which the operation was itself passed over. -/
theorem St.passU {op : Op} {g dg : Nat} {b : Bool} (hd : (ops[g]?).bind (·.dst) = some dg) (hb : look l dg = some undef)
    (hN : dstOk N d = true) (hM : Nat.blt dg N = true) (h : St N D (putE d undef l) (wpl ro P ops Q rest) w) : St N D l (wpl ro P ops Q (⟨d, op, ty, pos, af, some (g, b)⟩ :: rest)) w := by
  intro T hT hs
  have hw : Region.wanted ⟨d, op, ty, pos, af, some (g, b)⟩ (yielded ops T) = false := by
    have h1 := hs _ _ hb
    have hlt : dg + 1 ≤ T.size := by rw [hT]; simpa [Nat.blt] using hM
    have h2 : T[dg]? = some undef := by
      rw [Array.getD_eq_getD_getElem?] at h1
      rw [Array.getElem?_eq_getElem hlt] at h1 ⊢
      simpa using h1
    simp only [Region.wanted, yielded, hd, Option.bind_some, h2]
    rfl
  refine wpl_unwanted hw ?_
  obtain ⟨T', h1, h2, h3⟩ := hs.putE (D := D) (d := d) (by rw [hT]; exact hN) undef
  simp only [h1]
  exact h T' (h2.trans hT) h3

theorem R.move {x : Operand} {v : Value} (hx : ev l x = some v) : Runs P N D l w ⟨d, .move x, ty, pos, af, gd⟩ v w :=
  fun T _ hs => (by simp only [execOp, ev_eval hs hx]; rfl)
theorem R.assign {x : Operand} {v : Value} (hx : ev l x = some v) : Runs P N D l w ⟨d, .assign x, ty, pos, af, gd⟩ v w :=
  fun T _ hs => (by simp only [execOp, ev_eval hs hx]; rfl)
theorem R.pickT {c x y : Operand} {v : Value} (hc : ev l c = some (.bool true)) (hx : ev l x = some v) : Runs P N D l w ⟨d, .pick c x y, ty, pos, af, gd⟩ v w :=
  fun T _ hs => (by simp only [execOp, ev_eval hs hc, ev_eval hs hx]; rfl)
theorem R.pickF {c x y : Operand} {v : Value} (hc : ev l c = some (.bool false)) (hx : ev l y = some v) : Runs P N D l w ⟨d, .pick c x y, ty, pos, af, gd⟩ v w :=
  fun T _ hs => (by simp only [execOp, ev_eval hs hc, ev_eval hs hx]; rfl)
theorem R.extract {x : Operand} {i : Nat} {vs : Array Value} {v : Value} (hx : ev l x = some (.tuple vs)) (hv : vs.toList[i]? = some v) : Runs P N D l w ⟨d, .extract x i, ty, pos, af, gd⟩ v w :=
  fun T _ hs => (by rw [Array.getElem?_toList] at hv; simp only [execOp, ev_eval hs hx, Instr.extract, hv]; rfl)
theorem Runs.lit {o : Oper} {b c : Bool} {w' : World} (h : Runs P N D l w o (.bool b) w') (e : b = c) : Runs P N D l w o (.bool c) w' := e ▸ h
theorem Runs.eq {o : Oper} {v u : Value} {w' : World} (h : Runs P N D l w o v w') (e : v = u) : Runs P N D l w o u w' := e ▸ h
theorem R.iface {x : Operand} {t : TypeId} {v : Value} {u : TypeDesc} (ht : P.underlying t = some u) (hu : (match u with | .interface _ => false | _ => true) = true) (hx : ev l x = some v) : Runs P N D l w ⟨d, .makeInterface t x, ty, pos, af, gd⟩ (.iface t v) w :=
  fun T _ hs => (by
    simp only [execOp, ev_eval hs hx, Instr.makeInterface, Sem.run_bind, run_underlying ht, Result.andThen_ok]
    cases u <;> first | rfl | cases hu)
theorem R.fn {f : Fn} {a b : Array Operand} {va vb : List Value} (ha : evs l a.toList = some va) (hb : evs l b.toList = some vb) : Runs P N D l w ⟨d, .makeFunc f a b, ty, pos, af, gd⟩ (.func f va.toArray vb.toArray) w :=
  fun T _ hs => (by
    have h1 : a.map (Act.eval ⟨T, D⟩) = va.toArray := by rw [← evs_eval hs ha, ← Array.toList_map, Array.toArray_toList]
    have h2 : b.map (Act.eval ⟨T, D⟩) = vb.toArray := by rw [← evs_eval hs hb, ← Array.toList_map, Array.toArray_toList]
    simp only [execOp, h1, h2, Instr.makeFunc]; rfl)

/-! ### numbers -/
theorem run_eqGuard_int (P : Program) (w : World) (op : BinOp) (t : TypeId) (x y : Operand) (k j : IntKind) (a b : Int) : (eqGuard op t x y (.int k a) (.int j b)).run P w = .ok () w := by
  cases op <;> rfl
theorem run_eqGuard_string (P : Program) (w : World) (op : BinOp) (t : TypeId) (x y : Operand) (a b : ByteArray) : (eqGuard op t x y (.string a) (.string b)).run P w = .ok () w := by
  cases op <;> rfl
theorem run_eqGuard_bool (P : Program) (w : World) (op : BinOp) (t : TypeId) (x y : Operand) (a b : Bool) : (eqGuard op t x y (.bool a) (.bool b)).run P w = .ok () w := by
  cases op <;> rfl

theorem R.bin {op : BinOp} {t t' : TypeId} {x y : Operand} {a b v : Value} {w' : World} (hx : ev l x = some a) (hy : ev l y = some b) (hg : (eqGuard op t x y a b).run P w = .ok () w)
    (hr : (binOp op t a b).run P w = .ok v w') : Runs P N D l w ⟨d, .binOp op t x y t', ty, pos, af, gd⟩ v w' :=
  fun T _ hs => (by
    simp only [execOp, ev_eval hs hx, ev_eval hs hy, Sem.run_bind, hg, hr, Result.andThen_ok]; rfl)

section
variable {t t' : TypeId} {x y : Operand} {kd : IntKind} {a b : Int}
theorem R.arith {op : BinOp} (hop : op = .add ∨ op = .sub ∨ op = .mul) (c : Int) (hx : ev l x = some (.int kd a)) (hy : ev l y = some (.int kd b))
    (hc : kd.wrap (match op with | .add => a + b | .sub => a - b | _ => a * b) = c) : Runs P N D l w ⟨d, .binOp op t x y t', ty, pos, af, gd⟩ (.int kd c) w :=
  R.bin hx hy (run_eqGuard_int ..) (by rcases hop with rfl | rfl | rfl <;> (subst hc; simp only [binOp, ne_eq, not_true_eq_false, if_false, Op.intArith]; rfl))
theorem wrap_in {n : Int} (h1 : -9223372036854775808 ≤ n) (h2 : n ≤ 9223372036854775807) : IntKind.i64.wrap n = n := by
  rw [IntKind.wrap_i64]; omega
theorem R.add (hx : ev l x = some (.int .i64 a)) (hy : ev l y = some (.int .i64 b)) (h1 : -9223372036854775808 ≤ a + b) (h2 : a + b ≤ 9223372036854775807) : Runs P N D l w ⟨d, .binOp .add t x y t', ty, pos, af, gd⟩ (.int .i64 (a + b)) w :=
  R.arith (.inl rfl) _ hx hy (wrap_in h1 h2)
theorem R.sub (hx : ev l x = some (.int .i64 a)) (hy : ev l y = some (.int .i64 b)) (h1 : -9223372036854775808 ≤ a - b) (h2 : a - b ≤ 9223372036854775807) : Runs P N D l w ⟨d, .binOp .sub t x y t', ty, pos, af, gd⟩ (.int .i64 (a - b)) w :=
  R.arith (.inr (.inl rfl)) _ hx hy (wrap_in h1 h2)
theorem R.mul (hx : ev l x = some (.int .i64 a)) (hy : ev l y = some (.int .i64 b)) (h1 : -9223372036854775808 ≤ a * b) (h2 : a * b ≤ 9223372036854775807) : Runs P N D l w ⟨d, .binOp .mul t x y t', ty, pos, af, gd⟩ (.int .i64 (a * b)) w :=
  R.arith (.inr (.inr rfl)) _ hx hy (wrap_in h1 h2)

theorem run_cmp (P : Program) (w : World) (t : TypeId) (kd : IntKind) (a b : Int) :
    (binOp .eql t (.int kd a) (.int kd b)).run P w = .ok (.bool (decide (a = b))) w ∧ (binOp .neq t (.int kd a) (.int kd b)).run P w = .ok (.bool (decide (a ≠ b))) w ∧
    (binOp .lss t (.int kd a) (.int kd b)).run P w = .ok (.bool (decide (a < b))) w ∧ (binOp .leq t (.int kd a) (.int kd b)).run P w = .ok (.bool (decide (a ≤ b))) w ∧
    (binOp .gtr t (.int kd a) (.int kd b)).run P w = .ok (.bool (decide (b < a))) w ∧ (binOp .geq t (.int kd a) (.int kd b)).run P w = .ok (.bool (decide (b ≤ a))) w := by
  refine ⟨?_, ?_, ?_, ?_, ?_, ?_⟩ <;> simp only [binOp, ne_eq, not_true_eq_false, if_false, Op.intCmp] <;> first | rfl | (simp [Sem.run_pure]; done) | (simp [Sem.run_pure]; rfl)

theorem R.eql (hx : ev l x = some (.int kd a)) (hy : ev l y = some (.int kd b)) : Runs P N D l w ⟨d, .binOp .eql t x y t', ty, pos, af, gd⟩ (.bool (decide (a = b))) w := R.bin hx hy (run_eqGuard_int ..) (run_cmp P w t kd a b).1
theorem R.neq (hx : ev l x = some (.int kd a)) (hy : ev l y = some (.int kd b)) : Runs P N D l w ⟨d, .binOp .neq t x y t', ty, pos, af, gd⟩ (.bool (decide (a ≠ b))) w := R.bin hx hy (run_eqGuard_int ..) (run_cmp P w t kd a b).2.1
theorem R.lss (hx : ev l x = some (.int kd a)) (hy : ev l y = some (.int kd b)) : Runs P N D l w ⟨d, .binOp .lss t x y t', ty, pos, af, gd⟩ (.bool (decide (a < b))) w := R.bin hx hy (run_eqGuard_int ..) (run_cmp P w t kd a b).2.2.1
theorem R.leq (hx : ev l x = some (.int kd a)) (hy : ev l y = some (.int kd b)) : Runs P N D l w ⟨d, .binOp .leq t x y t', ty, pos, af, gd⟩ (.bool (decide (a ≤ b))) w := R.bin hx hy (run_eqGuard_int ..) (run_cmp P w t kd a b).2.2.2.1
theorem R.gtr (hx : ev l x = some (.int kd a)) (hy : ev l y = some (.int kd b)) : Runs P N D l w ⟨d, .binOp .gtr t x y t', ty, pos, af, gd⟩ (.bool (decide (b < a))) w := R.bin hx hy (run_eqGuard_int ..) (run_cmp P w t kd a b).2.2.2.2.1
theorem R.geq (hx : ev l x = some (.int kd a)) (hy : ev l y = some (.int kd b)) : Runs P N D l w ⟨d, .binOp .geq t x y t', ty, pos, af, gd⟩ (.bool (decide (b ≤ a))) w := R.bin hx hy (run_eqGuard_int ..) (run_cmp P w t kd a b).2.2.2.2.2
end

theorem R.not {t : TypeId} {x : Operand} {b : Bool} (hx : ev l x = some (.bool b)) : Runs P N D l w ⟨d, .unOp .not t x, ty, pos, af, gd⟩ (.bool (!b)) w :=
  fun T _ hs => (by simp only [execOp, ev_eval hs hx, Op.unary]; rfl)

theorem run_equal_bool {P : Program} (w : World) {t : TypeId} (ht : P.underlying t = some .bool) (a b : Bool) : (Op.equal t (.bool a) (.bool b)).run P w = .ok (a == b) w := by
  have h : ∀ n, (Op.equalIn (n + 1) t (.bool a) (.bool b)).run P w = .ok (a == b) w := fun n => by
    simp only [Op.equalIn, Sem.run_bind, run_underlying ht, Result.andThen_ok]; rfl
  exact h 9999
theorem R.eqB {t t' : TypeId} {x y : Operand} {a b : Bool} (ht : P.underlying t = some .bool) (hx : ev l x = some (.bool a)) (hy : ev l y = some (.bool b)) : Runs P N D l w ⟨d, .binOp .eql t x y t', ty, pos, af, gd⟩ (.bool (a == b)) w :=
  R.bin hx hy (run_eqGuard_bool ..) (by simp only [binOp, Sem.run_bind, run_equal_bool w ht, Result.andThen_ok]; rfl)
/-! ### strings -/
theorem eqS_dec (a b : ByteArray) : (a.toList == b.toList) = decide (a = b) := by
  rw [Bool.eq_iff_iff, decide_eq_true_iff, beq_iff_eq, ByteArray.toList_eq, ByteArray.toList_eq]
  exact ⟨fun h => ByteArray.ext (Array.toList_inj.mp h), fun h => by rw [h]⟩
theorem neS_dec (a b : ByteArray) : (!(a.toList == b.toList)) = decide (a ≠ b) := by rw [eqS_dec]; by_cases h : a = b <;> simp [h]
theorem R.eqS {t t' : TypeId} {x y : Operand} {a b : ByteArray} (hx : ev l x = some (.string a)) (hy : ev l y = some (.string b)) : Runs P N D l w ⟨d, .binOp .eql t x y t', ty, pos, af, gd⟩ (.bool (decide (a = b))) w :=
  R.bin hx hy (run_eqGuard_string ..) (by rw [← eqS_dec]; rfl)
theorem R.neS {t t' : TypeId} {x y : Operand} {a b : ByteArray} (hx : ev l x = some (.string a)) (hy : ev l y = some (.string b)) : Runs P N D l w ⟨d, .binOp .neq t x y t', ty, pos, af, gd⟩ (.bool (decide (a ≠ b))) w :=
  R.bin hx hy (run_eqGuard_string ..) (by rw [← neS_dec]; rfl)

/-! ### errors: nil, or a number of a named type -/
def errV (t : TypeId) : Option Int → Value
  | none => .nilIface
  | some e => .iface t (.int .i64 e)
theorem run_equal_nil {P : Program} (w : World) {t : TypeId} {ms : Array (String × TypeId)} (ht : P.underlying t = some (.interface ms)) (et : TypeId) (e : Option Int) :
    (Op.equal t (errV et e) .nilIface).run P w = .ok e.isNone w := by
  have h : ∀ n, (Op.equalIn (n + 1) t (errV et e) .nilIface).run P w = .ok e.isNone w := fun n => by
    cases e <;> simp only [errV, Op.equalIn, Sem.run_bind, run_underlying ht, Result.andThen_ok] <;> rfl
  exact h 9999
theorem run_eqGuard_nil (P : Program) (w : World) (op : BinOp) (t et : TypeId) (x : Operand) (e : Option Int) : (eqGuard op t x (.const .nilIface) (errV et e) .nilIface).run P w = .ok () w := by
  cases e <;> cases op <;> simp [eqGuard, errV] <;> rfl
theorem run_eql_nil {P : Program} (w : World) {t : TypeId} {ms : Array (String × TypeId)} (ht : P.underlying t = some (.interface ms)) (et : TypeId) (e : Option Int) :
    (binOp .eql t (errV et e) .nilIface).run P w = .ok (.bool e.isNone) w ∧ (binOp .neq t (errV et e) .nilIface).run P w = .ok (.bool e.isSome) w := by
  have h := run_equal_nil w ht et e
  cases e <;> simp only [errV] at h <;> constructor <;> simp only [errV, binOp, Sem.run_bind, h, Result.andThen_ok] <;> rfl
theorem R.isNil {t t' et : TypeId} {x : Operand} {e : Option Int} {ms : Array (String × TypeId)} (ht : P.underlying t = some (.interface ms)) (hx : ev l x = some (errV et e)) : Runs P N D l w ⟨d, .binOp .eql t x (.const .nilIface) t', ty, pos, af, gd⟩ (.bool e.isNone) w :=
  R.bin hx rfl (run_eqGuard_nil ..) (run_eql_nil w ht et e).1
theorem R.notNil {t t' et : TypeId} {x : Operand} {e : Option Int} {ms : Array (String × TypeId)} (ht : P.underlying t = some (.interface ms)) (hx : ev l x = some (errV et e)) : Runs P N D l w ⟨d, .binOp .neq t x (.const .nilIface) t', ty, pos, af, gd⟩ (.bool e.isSome) w :=
  R.bin hx rfl (run_eqGuard_nil ..) (run_eql_nil w ht et e).2

/-! ### len -/
theorem R.lenSl {t e : TypeId} {x : Operand} {A : Option Addr} {n c : Nat} (ht : P.underlying t = some (.slice e)) (hx : ev l x = some (.slice A n c)) : Runs P N D l w ⟨d, .call { callee := .builtin .len, args := #[x], argTypes := #[t] }, ty, pos, af, gd⟩ (.int .i64 (n : Int)) w :=
  fun T _ hs => (by
    simp only [execOp, resolve, invoke, builtin, Sem.run_bind, Sem.run_pure, Result.andThen_ok, List.map_toArray, List.map_cons, List.map_nil, ev_eval hs hx]
    simp [Builtin.len_, run_underlying ht, goInt])
theorem R.lenStr {t : TypeId} {x : Operand} {s : ByteArray} (ht : P.underlying t = some .string) (hx : ev l x = some (.string s)) : Runs P N D l w ⟨d, .call { callee := .builtin .len, args := #[x], argTypes := #[t] }, ty, pos, af, gd⟩ (.int .i64 (s.size : Int)) w :=
  fun T _ hs => (by
    simp only [execOp, resolve, invoke, builtin, Sem.run_bind, Sem.run_pure, Result.andThen_ok, List.map_toArray, List.map_cons, List.map_nil, ev_eval hs hx]
    simp [Builtin.len_, run_underlying ht, goInt])
end
end Go.Proofs.YtjgcmpondbocfaaGreatDoor
