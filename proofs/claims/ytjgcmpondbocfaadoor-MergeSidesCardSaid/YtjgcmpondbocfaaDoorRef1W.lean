/- The reference on order: strataref1.Compare, Order, In, each walked once. Under the reading of the arguments. -/
import Derived.Test.YtjgcmpondbocfaaDoorProg
import Derived.Test.YtjgcmpondbocfaaDoorSetW
import Derived.Test.YtjgcmpondbocfaaDoorStrCmp
import Derived.Test.YtjgcmpondbocfaaDoorMergeLaw
namespace Go.Proofs.YtjgcmpondbocfaaDoor
open Go.RowKit 
theorem ent52 : Ent Tryd.prog 52 := Ent.of Tryd.func52 (by kernel_rfl) rfl
theorem ent72 : Ent Tryd.prog 72 := Ent.of Tryd.func72 (by kernel_rfl) rfl

theorem cmpL_range : ∀ a b : List UInt8, cmpL a b = -1 ∨ cmpL a b = 0 ∨ cmpL a b = 1
  | [], [] => by simp [cmpL, Go.Lib.compareBytes]
  | [], _ :: _ => by simp [cmpL, Go.Lib.compareBytes]
  | _ :: _, [] => by simp [cmpL, Go.Lib.compareBytes]
  | x :: xs, y :: ys => by
    have ih := cmpL_range xs ys
    simp only [cmpL, Go.Lib.compareBytes] at ih ⊢
    split
    · exact .inl rfl
    · split
      · exact .inr (.inr rfl)
      · exact ih
theorem termCmp_as (a b : Term) : termCmp a b = if a.kind ≠ b.kind then (if a.kind < b.kind then -1 else 1) else if a.s ≠ b.s then cmpS a.s b.s else cmpS a.lang b.lang := by
  unfold termCmp orI
  have h1 := cmpI_is.eq a.kind b.kind
  have h2 := cmpS_is.eq a.s b.s
  by_cases e : a.kind = b.kind
  · have k1 := h1.2 e
    by_cases e2 : a.s = b.s
    · have k2 := h2.2 e2
      rw [k1, k2]; simp [e, e2]
    · have k2 : cmpS a.s b.s ≠ 0 := fun h => e2 (h2.1 h)
      rw [k1]; simp [e, e2, k2]
  · rw [if_pos (fun h => e (h1.1 h)), if_pos e]
    unfold cmpI
    split
    · rfl
    · rw [if_pos (by omega)]
theorem tc3 (a b : Triple) (h : orI (termCmp a.s b.s) (termCmp a.p b.p) = 0) : termCmp a.o b.o = tripCmp a b := by
  unfold tripCmp
  unfold orI at h ⊢
  split at h
  · contradiction
  · rename_i h1
    rw [if_neg h1, h]; simp
theorem tc2 (a b : Triple) (h : ¬ orI (termCmp a.s b.s) (termCmp a.p b.p) = 0) : orI (termCmp a.s b.s) (termCmp a.p b.p) = tripCmp a b := by
  unfold tripCmp
  unfold orI at h ⊢
  split at h
  · rename_i h1; rw [if_pos h1, if_pos h1]
  · rename_i h1; rw [if_neg h1, if_neg h1, if_pos h]
theorem cmpS_range (a b : ByteArray) : cmpS a b = -1 ∨ cmpS a b = 0 ∨ cmpS a b = 1 := cmpL_range _ _

theorem rCompare_ret {a b : Term} (w0 : World) : Ret Tryd.prog 72 [.agg (encTerm a).toArray, .agg (encTerm b).toArray] w0 fun r w' => r = .int .i64 (termCmp a b) ∧ Ext w0 w' := by
  have E : Ext w0 w0 := Ext.refl w0
  refine St.enter (N := 35) Tryd.func72 rfl Tryd.ntmps72 rfl ?_
  refine St.seq fun K0 hK0 => ?_
  refine St.region ?_
  refine St.box rfl rfl ?_
  intro w2 b2 hb2 hs2 e2 k2
  have qE2 := E.size
  replace E := Ext.trans E e2
  refine St.box rfl rfl ?_
  intro w3 b3 hb3 hs3 e3 k3
  have qE3 := E.size
  replace E := Ext.trans E e3
  replace k2 := k2.ext e3
  refine St.r (R.assign rfl) rfl rfl ?_
  refine St.nil ?_
  refine St.weak [(2, _), (3, _)] ⟨rfl, rfl, trivial⟩ ?_
  refine St.then_n ?_
  refine St.go hK0 ?_
  clear hK0
  refine St.seq fun K1 hK1 => ?_
  refine St.seq fun K2 hK2 => ?_
  refine St.region ?_
  refine St.r (R.fieldA Tryd.underlying66 rfl Tryd.sizeOf3 rfl rfl rfl) rfl rfl ?_
  refine St.r (R.load1 Tryd.isAgg3 rfl (k2.cells.at 0 rfl)) rfl rfl ?_
  refine St.r (R.fieldA Tryd.underlying66 rfl Tryd.sizeOf3 rfl rfl rfl) rfl rfl ?_
  refine St.r (R.load1 Tryd.isAgg3 rfl (k3.cells.at 0 rfl)) rfl rfl ?_
  refine St.r (R.neq rfl rfl) rfl rfl ?_
  refine St.nil ?_
  refine St.weak [(2, _), (3, _), (9, _)] ⟨rfl, rfl, rfl, trivial⟩ ?_
  refine St.then_n ?_
  refine St.go hK2 ?_
  clear hK2
  refine St.condD rfl (fun h9 => ?_) (fun h9 => ?_)
  ·
    refine St.seq fun K3 hK3 => ?_
    refine St.seq fun K4 hK4 => ?_
    refine St.region ?_
    refine St.r (R.fieldA Tryd.underlying66 rfl Tryd.sizeOf3 rfl rfl rfl) rfl rfl ?_
    refine St.r (R.load1 Tryd.isAgg3 rfl (k2.cells.at 0 rfl)) rfl rfl ?_
    refine St.r (R.fieldA Tryd.underlying66 rfl Tryd.sizeOf3 rfl rfl rfl) rfl rfl ?_
    refine St.r (R.load1 Tryd.isAgg3 rfl (k3.cells.at 0 rfl)) rfl rfl ?_
    refine St.r (R.lss rfl rfl) rfl rfl ?_
    refine St.nil ?_
    refine St.weak [(14, _)] ⟨rfl, trivial⟩ ?_
    refine St.then_n ?_
    refine St.go hK4 ?_
    clear hK4
    refine St.condD rfl (fun h14 => ?_) (fun h14 => ?_)
    ·
      refine St.seq fun K5 hK5 => ?_
      refine St.region ?_
      refine St.r (R.assign rfl) rfl rfl ?_
      refine St.nil ?_
      refine St.weak [(4, _)] ⟨rfl, trivial⟩ ?_
      refine St.then_n ?_
      refine St.go hK5 ?_
      clear hK5
      refine St.ret ?_
      refine St.then_r ?_
      refine St.then_r ?_
      refine St.ret1 Tryd.results72 rfl ?_
      exact ⟨_, rfl, by rw [termCmp_as, if_pos h9, if_pos h14], E⟩
    ·
      refine St.skip ?_
      refine St.then_n ?_
      refine St.go hK3 ?_
      clear hK3
      refine St.seq fun K6 hK6 => ?_
      refine St.region ?_
      refine St.r (R.assign rfl) rfl rfl ?_
      refine St.nil ?_
      refine St.weak [(4, _)] ⟨rfl, trivial⟩ ?_
      refine St.then_n ?_
      refine St.go hK6 ?_
      clear hK6
      refine St.ret ?_
      refine St.then_r ?_
      refine St.ret1 Tryd.results72 rfl ?_
      exact ⟨_, rfl, by rw [termCmp_as, if_pos h9, if_neg h14], E⟩
  ·
    refine St.skip ?_
    refine St.then_n ?_
    refine St.go hK1 ?_
    clear hK1
    refine St.seq fun K7 hK7 => ?_
    refine St.seq fun K8 hK8 => ?_
    refine St.region ?_
    refine St.r (R.fieldA Tryd.underlying66 rfl Tryd.sizeOf9 rfl rfl rfl) rfl rfl ?_
    refine St.r (R.load1 Tryd.isAgg9 rfl (k2.cells.at 1 rfl)) rfl rfl ?_
    refine St.r (R.fieldA Tryd.underlying66 rfl Tryd.sizeOf9 rfl rfl rfl) rfl rfl ?_
    refine St.r (R.load1 Tryd.isAgg9 rfl (k3.cells.at 1 rfl)) rfl rfl ?_
    refine St.r (R.neS rfl rfl) rfl rfl ?_
    refine St.nil ?_
    refine St.weak [(2, _), (3, _), (19, _)] ⟨rfl, rfl, rfl, trivial⟩ ?_
    refine St.then_n ?_
    refine St.go hK8 ?_
    clear hK8
    refine St.condD rfl (fun h19 => ?_) (fun h19 => ?_)
    ·
      refine St.seq fun K9 hK9 => ?_
      refine St.seq fun K10 hK10 => ?_
      refine St.region ?_
      refine St.r (R.fieldA Tryd.underlying66 rfl Tryd.sizeOf9 rfl rfl rfl) rfl rfl ?_
      refine St.r (R.load1 Tryd.isAgg9 rfl (k2.cells.at 1 rfl)) rfl rfl ?_
      refine St.r (R.fieldA Tryd.underlying66 rfl Tryd.sizeOf9 rfl rfl rfl) rfl rfl ?_
      refine St.r (R.load1 Tryd.isAgg9 rfl (k3.cells.at 1 rfl)) rfl rfl ?_
      refine St.r (R.ltS rfl rfl) rfl rfl ?_
      refine St.nil ?_
      refine St.weak [(24, _)] ⟨rfl, trivial⟩ ?_
      refine St.then_n ?_
      refine St.go hK10 ?_
      clear hK10
      refine St.condD rfl (fun h24 => ?_) (fun h24 => ?_)
      ·
        refine St.seq fun K11 hK11 => ?_
        refine St.region ?_
        refine St.r (R.assign rfl) rfl rfl ?_
        refine St.nil ?_
        refine St.weak [(4, _)] ⟨rfl, trivial⟩ ?_
        refine St.then_n ?_
        refine St.go hK11 ?_
        clear hK11
        refine St.ret ?_
        refine St.then_r ?_
        refine St.then_r ?_
        refine St.ret1 Tryd.results72 rfl ?_
        have hr := cmpS_range a.s b.s
        refine ⟨_, rfl, ?_, E⟩
        rw [termCmp_as, if_neg h9, if_pos h19]
        exact congrArg (Value.int .i64) (by omega)
      ·
        refine St.skip ?_
        refine St.then_n ?_
        refine St.go hK9 ?_
        clear hK9
        refine St.seq fun K12 hK12 => ?_
        refine St.region ?_
        refine St.r (R.assign rfl) rfl rfl ?_
        refine St.nil ?_
        refine St.weak [(4, _)] ⟨rfl, trivial⟩ ?_
        refine St.then_n ?_
        refine St.go hK12 ?_
        clear hK12
        refine St.ret ?_
        refine St.then_r ?_
        refine St.ret1 Tryd.results72 rfl ?_
        have h0 : cmpS a.s b.s ≠ 0 := fun e => h19 ((cmpS_is.eq a.s b.s).1 e)
        have hr := cmpS_range a.s b.s
        refine ⟨_, rfl, ?_, E⟩
        rw [termCmp_as, if_neg h9, if_pos h19]
        exact congrArg (Value.int .i64) (by omega)
    ·
      refine St.skip ?_
      refine St.then_n ?_
      refine St.go hK7 ?_
      clear hK7
      refine St.seq fun K13 hK13 => ?_
      refine St.seq fun K14 hK14 => ?_
      refine St.region ?_
      refine St.r (R.fieldA Tryd.underlying66 rfl Tryd.sizeOf9 rfl rfl rfl) rfl rfl ?_
      refine St.r (R.load1 Tryd.isAgg9 rfl (k2.cells.at 2 rfl)) rfl rfl ?_
      refine St.r (R.fieldA Tryd.underlying66 rfl Tryd.sizeOf9 rfl rfl rfl) rfl rfl ?_
      refine St.r (R.load1 Tryd.isAgg9 rfl (k3.cells.at 2 rfl)) rfl rfl ?_
      refine St.r (R.ltS rfl rfl) rfl rfl ?_
      refine St.nil ?_
      refine St.weak [(2, _), (3, _), (29, _)] ⟨rfl, rfl, rfl, trivial⟩ ?_
      refine St.then_n ?_
      refine St.go hK14 ?_
      clear hK14
      refine St.condD rfl (fun h29 => ?_) (fun h29 => ?_)
      ·
        refine St.seq fun K15 hK15 => ?_
        refine St.region ?_
        refine St.r (R.assign rfl) rfl rfl ?_
        refine St.nil ?_
        refine St.weak [(4, _)] ⟨rfl, trivial⟩ ?_
        refine St.then_n ?_
        refine St.go hK15 ?_
        clear hK15
        refine St.ret ?_
        refine St.then_r ?_
        refine St.ret1 Tryd.results72 rfl ?_
        have hr := cmpS_range a.lang b.lang
        refine ⟨_, rfl, ?_, E⟩
        rw [termCmp_as, if_neg h9, if_neg h19]
        exact congrArg (Value.int .i64) (by omega)
      ·
        refine St.skip ?_
        refine St.then_n ?_
        refine St.go hK13 ?_
        clear hK13
        refine St.seq fun K16 hK16 => ?_
        refine St.seq fun K17 hK17 => ?_
        refine St.region ?_
        refine St.r (R.fieldA Tryd.underlying66 rfl Tryd.sizeOf9 rfl rfl rfl) rfl rfl ?_
        refine St.r (R.load1 Tryd.isAgg9 rfl (k2.cells.at 2 rfl)) rfl rfl ?_
        refine St.r (R.fieldA Tryd.underlying66 rfl Tryd.sizeOf9 rfl rfl rfl) rfl rfl ?_
        refine St.r (R.load1 Tryd.isAgg9 rfl (k3.cells.at 2 rfl)) rfl rfl ?_
        refine St.r (R.gtS rfl rfl) rfl rfl ?_
        refine St.nil ?_
        refine St.weak [(34, _)] ⟨rfl, trivial⟩ ?_
        refine St.then_n ?_
        refine St.go hK17 ?_
        clear hK17
        refine St.condD rfl (fun h34 => ?_) (fun h34 => ?_)
        ·
          refine St.seq fun K18 hK18 => ?_
          refine St.region ?_
          refine St.r (R.assign rfl) rfl rfl ?_
          refine St.nil ?_
          refine St.weak [(4, _)] ⟨rfl, trivial⟩ ?_
          refine St.then_n ?_
          refine St.go hK18 ?_
          clear hK18
          refine St.ret ?_
          refine St.then_r ?_
          refine St.ret1 Tryd.results72 rfl ?_
          have hr := cmpS_range a.lang b.lang
          refine ⟨_, rfl, ?_, E⟩
          rw [termCmp_as, if_neg h9, if_neg h19]
          exact congrArg (Value.int .i64) (by omega)
        ·
          refine St.skip ?_
          refine St.then_n ?_
          refine St.go hK16 ?_
          clear hK16
          refine St.seq fun K19 hK19 => ?_
          refine St.region ?_
          refine St.r (R.assign rfl) rfl rfl ?_
          refine St.nil ?_
          refine St.weak [(4, _)] ⟨rfl, trivial⟩ ?_
          refine St.then_n ?_
          refine St.go hK19 ?_
          clear hK19
          refine St.ret ?_
          refine St.ret1 Tryd.results72 rfl ?_
          have hr := cmpS_range a.lang b.lang
          refine ⟨_, rfl, ?_, E⟩
          rw [termCmp_as, if_neg h9, if_neg h19]
          exact congrArg (Value.int .i64) (by omega)

theorem rOrder_ret {a b : Triple} (w0 : World) : Ret Tryd.prog 52 [.agg (encTriple a).toArray, .agg (encTriple b).toArray] w0 fun r w' => r = .int .i64 (tripCmp a b) ∧ Ext w0 w' := by
  have E : Ext w0 w0 := Ext.refl w0
  refine St.enter (N := 26) Tryd.func52 rfl Tryd.ntmps52 rfl ?_
  refine St.seq fun K0 hK0 => ?_
  refine St.region ?_
  refine St.box rfl rfl ?_
  intro w2 b2 hb2 hs2 e2 k2
  have qE2 := E.size
  replace E := Ext.trans E e2
  refine St.box rfl rfl ?_
  intro w3 b3 hb3 hs3 e3 k3
  have qE3 := E.size
  replace E := Ext.trans E e3
  replace k2 := k2.ext e3
  refine St.r (R.assign rfl) rfl rfl ?_
  refine St.nil ?_
  refine St.weak [(2, _), (3, _)] ⟨rfl, rfl, trivial⟩ ?_
  refine St.then_n ?_
  refine St.go hK0 ?_
  clear hK0
  refine St.seq fun K1 hK1 => ?_
  refine St.region ?_
  refine St.r (R.fieldA Tryd.underlying68 rfl Tryd.sizeOf66 rfl rfl rfl) rfl rfl ?_
  refine St.r (R.loadA Tryd.isAgg66 Tryd.sizeOf66 rfl (triple_s k2) rfl) rfl rfl ?_
  refine St.r (R.fieldA Tryd.underlying68 rfl Tryd.sizeOf66 rfl rfl rfl) rfl rfl ?_
  refine St.r (R.loadA Tryd.isAgg66 Tryd.sizeOf66 rfl (triple_s k3) rfl) rfl rfl ?_
  refine St.call rfl rfl ent72 (rCompare_ret _) rfl ?_
  rintro r10 w10 ⟨rfl, e10⟩
  replace E := Ext.trans E e10
  replace k2 := k2.ext e10
  replace k3 := k3.ext e10
  refine St.r (R.assign rfl) rfl rfl ?_
  refine St.nil ?_
  refine St.weak [(2, _), (3, _), (5, _)] ⟨rfl, rfl, rfl, trivial⟩ ?_
  refine St.then_n ?_
  refine St.go hK1 ?_
  clear hK1
  refine St.seqJ (fun (x : Unit) => match x with | () => [(2, .pointer (some ⟨b2, 0, none⟩)), (3, .pointer (some ⟨b3, 0, none⟩)), (5, .int .i64 (orI (termCmp a.s b.s) (termCmp a.p b.p)))])
      (fun (x : Unit) w => match x with | () => Ext w0 w ∧ Blk w b2 68 (encTriple a) ∧ Blk w b3 68 (encTriple b)) ?_ ?_
  · rintro _ w ⟨E, k2, k3⟩
    show St _ _ [(2, .pointer (some ⟨b2, 0, none⟩)), (3, .pointer (some ⟨b3, 0, none⟩)), (5, .int .i64 (orI (termCmp a.s b.s) (termCmp a.p b.p)))] _ _
    refine St.seqJ (fun (x : Unit) => match x with | () => [(5, .int .i64 (tripCmp a b))])
        (fun (x : Unit) w => match x with | () => Ext w0 w) ?_ ?_
    · rintro _ w E
      show St _ _ [(5, .int .i64 (tripCmp a b))] _ _
      refine St.seq fun K4 hK4 => ?_
      refine St.region ?_
      refine St.r (R.move rfl) rfl rfl ?_
      refine St.r (R.assign rfl) rfl rfl ?_
      refine St.nil ?_
      refine St.weak [(4, _)] ⟨rfl, trivial⟩ ?_
      refine St.then_n ?_
      refine St.go hK4 ?_
      clear hK4
      refine St.ret ?_
      refine St.ret1 Tryd.results52 rfl ?_
      exact ⟨_, rfl, rfl, E⟩
    intro K3 hK3
    refine St.seq fun K5 hK5 => ?_
    refine St.region ?_
    refine St.r (R.move rfl) rfl rfl ?_
    refine St.r (R.eql rfl rfl) rfl rfl ?_
    refine St.nil ?_
    refine St.weak [(2, _), (3, _), (5, _), (19, _)] ⟨rfl, rfl, rfl, rfl, trivial⟩ ?_
    refine St.then_n ?_
    refine St.go hK5 ?_
    clear hK5
    refine St.condD rfl (fun h19 => ?_) (fun h19 => ?_)
    ·
      refine St.region ?_
      refine St.r (R.fieldA Tryd.underlying68 rfl Tryd.sizeOf66 rfl rfl rfl) rfl rfl ?_
      refine St.r (R.loadA Tryd.isAgg66 Tryd.sizeOf66 rfl (triple_o k2) rfl) rfl rfl ?_
      refine St.r (R.fieldA Tryd.underlying68 rfl Tryd.sizeOf66 rfl rfl rfl) rfl rfl ?_
      refine St.r (R.loadA Tryd.isAgg66 Tryd.sizeOf66 rfl (triple_o k3) rfl) rfl rfl ?_
      refine St.call rfl rfl ent72 (rCompare_ret _) rfl ?_
      rintro r24 w24 ⟨rfl, e24⟩
      replace E := Ext.trans E e24
      replace k2 := k2.ext e24
      replace k3 := k3.ext e24
      refine St.r (R.assign rfl) rfl rfl ?_
      refine St.nil ?_
      refine St.weak [(5, _)] ⟨rfl, trivial⟩ ?_
      refine St.then_n ?_
      refine St.meet hK3 () ⟨(look_eq rfl (congrArg (Value.int .i64) (tc3 _ _ h19))), trivial⟩ ?_
      · exact E
    ·
      refine St.skip ?_
      refine St.then_n ?_
      refine St.meet hK3 () ⟨(look_eq rfl (congrArg (Value.int .i64) (tc2 _ _ h19))), trivial⟩ ?_
      · exact E
  intro K2 hK2
  refine St.seq fun K6 hK6 => ?_
  refine St.region ?_
  refine St.r (R.move rfl) rfl rfl ?_
  refine St.r (R.eql rfl rfl) rfl rfl ?_
  refine St.nil ?_
  refine St.weak [(2, _), (3, _), (5, _), (12, _)] ⟨rfl, rfl, rfl, rfl, trivial⟩ ?_
  refine St.then_n ?_
  refine St.go hK6 ?_
  clear hK6
  refine St.condD rfl (fun h12 => ?_) (fun h12 => ?_)
  ·
    refine St.region ?_
    refine St.r (R.fieldA Tryd.underlying68 rfl Tryd.sizeOf66 rfl rfl rfl) rfl rfl ?_
    refine St.r (R.loadA Tryd.isAgg66 Tryd.sizeOf66 rfl (triple_p k2) rfl) rfl rfl ?_
    refine St.r (R.fieldA Tryd.underlying68 rfl Tryd.sizeOf66 rfl rfl rfl) rfl rfl ?_
    refine St.r (R.loadA Tryd.isAgg66 Tryd.sizeOf66 rfl (triple_p k3) rfl) rfl rfl ?_
    refine St.call rfl rfl ent72 (rCompare_ret _) rfl ?_
    rintro r17 w17 ⟨rfl, e17⟩
    replace E := Ext.trans E e17
    replace k2 := k2.ext e17
    replace k3 := k3.ext e17
    refine St.r (R.assign rfl) rfl rfl ?_
    refine St.nil ?_
    refine St.weak [(2, _), (3, _), (5, _)] ⟨rfl, rfl, rfl, trivial⟩ ?_
    refine St.then_n ?_
    refine St.meet hK2 () ⟨rfl, rfl, (look_eq rfl (congrArg (Value.int .i64) (by rw [orI, h12]; simp))), trivial⟩ ?_
    · exact ⟨E, k2, k3⟩
  ·
    refine St.skip ?_
    refine St.then_n ?_
    refine St.meet hK2 () ⟨rfl, rfl, (look_eq rfl (congrArg (Value.int .i64) (by rw [orI, if_pos h12]))), trivial⟩ ?_
    · exact ⟨E, k2, k3⟩

theorem rIn_ret {l : List Triple} {t : Triple} {v : Value} (w0 : World) (hv : RTriples w0 v l) : Ret Tryd.prog 32 [v, .agg (encTriple t).toArray] w0 fun r w' => r = .bool (decide (t ∈ l)) ∧ Ext w0 w' := by
  obtain ⟨A, c, rfl, hc1, hc2⟩ := hv.form
  have E : Ext w0 w0 := Ext.refl w0
  refine St.enter (N := 19) Tryd.func32 rfl Tryd.ntmps32 rfl ?_
  refine St.seq fun K0 hK0 => ?_
  refine St.region ?_
  refine St.box rfl rfl ?_
  intro w3 b3 hb3 hs3 e3 k3
  have qE3 := E.size
  replace E := Ext.trans E e3
  refine St.r (R.assign rfl) rfl rfl ?_
  refine St.nil ?_
  refine St.weak [(0, _), (3, _)] ⟨rfl, rfl, trivial⟩ ?_
  refine St.then_n ?_
  refine St.go hK0 ?_
  clear hK0
  refine St.seq fun K1 hK1 => ?_
  refine St.seq fun K2 hK2 => ?_
  refine St.region ?_
  refine St.r (R.assign rfl) rfl rfl ?_
  refine St.nil ?_
  refine St.weak [(0, _), (3, _), (5, _)] ⟨rfl, rfl, rfl, trivial⟩ ?_
  refine St.then_n ?_
  refine St.go hK2 ?_
  clear hK2
  refine St.block ?_
  refine St.loop (fun (k : Nat) => [(0, .slice A l.length c), (3, .pointer (some ⟨b3, 0, none⟩)), (5, .int .i64 (k : Int))])
      (fun (k : Nat) w => k ≤ l.length ∧ Ext w0 w ∧ Blk w b3 68 (encTriple t) ∧ ∀ y ∈ l.take k, decide (y = t) = false)
      (fun (k : Nat) => l.length - k) 0 ⟨rfl, rfl, rfl, trivial⟩ ?_ ?_
  · exact ⟨Nat.zero_le _, E, k3, by simp⟩
  rintro k w ⟨hk, E, k3, hall⟩
  show St _ _ [(0, .slice A l.length c), (3, .pointer (some ⟨b3, 0, none⟩)), (5, .int .i64 (k : Int))] _ _
  refine St.seq fun K3 hK3 => ?_
  refine St.seq fun K4 hK4 => ?_
  refine St.region ?_
  refine St.r (R.move rfl) rfl rfl ?_
  refine St.r (R.move rfl) rfl rfl ?_
  refine St.r (R.lenSl Tryd.underlying64 rfl) rfl rfl ?_
  refine St.r (R.lss rfl rfl) rfl rfl ?_
  refine St.nil ?_
  refine St.weak [(0, _), (3, _), (5, _), (9, _)] ⟨rfl, rfl, rfl, rfl, trivial⟩ ?_
  refine St.then_n ?_
  refine St.go hK4 ?_
  clear hK4
  refine St.condD rfl (fun h9 => ?_) (fun h9 => ?_)
  ·
    obtain ⟨x, hx⟩ := get_of_lt (xs := l) (k := k) (by omega)
    obtain ⟨xb, xo, rfl, hxc⟩ := hv.get' hx
    refine St.skip ?_
    refine St.then_n ?_
    refine St.go hK3 ?_
    clear hK3
    refine St.seq fun K5 hK5 => ?_
    refine St.block ?_
    refine St.seq fun K6 hK6 => ?_
    refine St.weak [(0, _), (3, _), (5, _)] ⟨rfl, rfl, rfl, trivial⟩ ?_
    refine St.drawX mixed rfl rfl rfl rfl ?_
    replace E := Ext.trans E (Ext.drew _)
    replace k3 := k3.ext (Ext.drew _)
    refine ⟨_, fun W eW => OpX.q (OpOk.r (R.move rfl) rfl), ?_⟩
    refine ⟨_, fun W eW => OpX.q (OpOk.r (R.move rfl) rfl), ?_⟩
    refine ⟨_, fun W eW => OpX.q (OpOk.r (R.indexS k Tryd.underlying64 Tryd.sizeOf68 rfl rfl rfl (by omega)) rfl), ?_⟩
    refine ⟨_, fun W eW => OpX.q (OpOk.r (R.loadA Tryd.isAgg68 Tryd.sizeOf68 rfl ((Ext.trans E eW).cells hxc) rfl) rfl), ?_⟩
    refine ⟨_, fun W eW => OpX.q (OpOk.r (R.loadA Tryd.isAgg68 Tryd.sizeOf68 rfl (k3.ext eW).cells rfl) rfl), ?_⟩
    refine ⟨_, fun W eW => OpX.call rfl rfl ent52 (rOrder_ret _), ?_⟩
    refine ⟨_, fun W eW => OpX.q (OpOk.r (R.eql rfl rfl) rfl), ?_⟩
    show ∀ w', Ext _ w' → St _ _ _ _ w'
    intro wd4 ed4
    replace E := Ext.trans E ed4
    replace k3 := k3.ext ed4
    refine St.weak [(0, _), (3, _), (5, _), (18, _)] ⟨rfl, rfl, rfl, rfl, trivial⟩ ?_
    refine St.then_n ?_
    refine St.go hK6 ?_
    clear hK6
    refine St.condD rfl (fun h18 => ?_) (fun h18 => ?_)
    ·
      refine St.seq fun K7 hK7 => ?_
      refine St.region ?_
      refine St.r (R.assign rfl) rfl rfl ?_
      refine St.nil ?_
      refine St.weak [(4, _)] ⟨rfl, trivial⟩ ?_
      refine St.then_n ?_
      refine St.go hK7 ?_
      clear hK7
      refine St.ret ?_
      refine St.in_r ?_
      refine St.then_r ?_
      refine St.then_r ?_
      refine St.in_r ?_
      refine St.then_r ?_
      refine St.ret1 Tryd.results32 rfl ?_
      exact ⟨_, rfl, by rw [decide_eq_true ((tripCmp_is.eq _ _).1 h18 ▸ List.mem_of_getElem? hx)], E⟩
    ·
      refine St.skip ?_
      refine St.in_n ?_
      refine St.then_n ?_
      refine St.go hK5 ?_
      clear hK5
      refine St.region ?_
      refine St.r (R.move rfl) rfl rfl ?_
      refine St.r (R.add rfl rfl (by omega) (by omega)) rfl rfl ?_
      refine St.r (R.assign rfl) rfl rfl ?_
      refine St.nil ?_
      refine St.weak [(0, _), (3, _), (5, _)] ⟨rfl, rfl, rfl, trivial⟩ ?_
      refine St.then_n ?_
      refine St.round (k + 1) ⟨rfl, rfl, rfl, trivial⟩ ?_ ?_
      · refine ⟨by omega, E, k3, ?_⟩
        rw [take_snoc hx]
        intro y hy
        rcases List.mem_append.1 hy with hy | hy
        · exact hall y hy
        · rw [List.mem_singleton] at hy; subst hy; exact decide_eq_false fun e => h18 ((tripCmp_is.eq _ _).2 e)
      · omega
  ·
    refine St.exit ?_
    refine St.then_x ?_
    refine St.then_x ?_
    refine St.in_x ?_
    refine St.then_n ?_
    refine St.go hK1 ?_
    clear hK1
    refine St.seq fun K8 hK8 => ?_
    refine St.region ?_
    refine St.r (R.assign rfl) rfl rfl ?_
    refine St.nil ?_
    refine St.weak [(4, _)] ⟨rfl, trivial⟩ ?_
    refine St.then_n ?_
    refine St.go hK8 ?_
    clear hK8
    refine St.ret ?_
    refine St.ret1 Tryd.results32 rfl ?_
    rw [List.take_of_length_le (by omega)] at hall
    exact ⟨_, rfl, by rw [decide_eq_false (fun hm => by have := hall _ hm; simp at this)], E⟩

end Go.Proofs.YtjgcmpondbocfaaDoor
