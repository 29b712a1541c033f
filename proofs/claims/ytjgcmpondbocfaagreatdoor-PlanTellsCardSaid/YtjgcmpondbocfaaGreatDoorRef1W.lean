/- The reference on order: strataref1.Compare, Order, In, each walked once. Under the reading of the arguments. -/
import Derived.Test.YtjgcmpondbocfaaGreatDoorProg
import Derived.Test.YtjgcmpondbocfaaGreatDoorSetW
import Derived.Test.YtjgcmpondbocfaaGreatDoorStrCmp
import Derived.Test.YtjgcmpondbocfaaGreatDoorMergeLaw
namespace Go.Proofs.YtjgcmpondbocfaaGreatDoor
open Go.RowKit 
theorem ent110 : Ent Tryz.prog 110 := Ent.of Tryz.func110 (by kernel_rfl) rfl

theorem cmpL_range : ∀ a b : List UInt8, cmpL a b = -1 ∨ cmpL a b = 0 ∨ cmpL a b = 1
  | [], [] => by simp [cmpL, Go.Lib.compareBytes]
  | [], _ :: _ => by simp [cmpL, Go.Lib.compareBytes]
  | _ :: _, [] => by simp [cmpL, Go.Lib.compareBytes]
  | x :: xs, y :: ys => by
    have ih := cmpL_range xs ys
    simp only [cmpL, Go.Lib.compareBytes] at ih ⊢
    split
    · exact .inl rfl
    · split
      · exact .inr (.inr rfl)
      · exact ih
theorem termCmp_as (a b : Term) : termCmp a b = if a.kind ≠ b.kind then (if a.kind < b.kind then -1 else 1) else if a.s ≠ b.s then cmpS a.s b.s else cmpS a.lang b.lang := by
  unfold termCmp orI
  have h1 := cmpI_is.eq a.kind b.kind
  have h2 := cmpS_is.eq a.s b.s
  by_cases e : a.kind = b.kind
  · have k1 := h1.2 e
    by_cases e2 : a.s = b.s
    · have k2 := h2.2 e2
      rw [k1, k2]; simp [e, e2]
    · have k2 : cmpS a.s b.s ≠ 0 := fun h => e2 (h2.1 h)
      rw [k1]; simp [e, e2, k2]
  · rw [if_pos (fun h => e (h1.1 h)), if_pos e]
    unfold cmpI
    split
    · rfl
    · rw [if_pos (by omega)]
theorem tc3 (a b : Triple) (h : orI (termCmp a.s b.s) (termCmp a.p b.p) = 0) : termCmp a.o b.o = tripCmp a b := by
  unfold tripCmp
  unfold orI at h ⊢
  split at h
  · contradiction
  · rename_i h1
    rw [if_neg h1, h]; simp
theorem tc2 (a b : Triple) (h : ¬ orI (termCmp a.s b.s) (termCmp a.p b.p) = 0) : orI (termCmp a.s b.s) (termCmp a.p b.p) = tripCmp a b := by
  unfold tripCmp
  unfold orI at h ⊢
  split at h
  · rename_i h1; rw [if_pos h1, if_pos h1]
  · rename_i h1; rw [if_neg h1, if_neg h1, if_pos h]
theorem cmpS_range (a b : ByteArray) : cmpS a b = -1 ∨ cmpS a b = 0 ∨ cmpS a b = 1 := cmpL_range _ _

theorem rCompare_ret {a b : Term} (w0 : World) : Ret Tryz.prog 110 [.agg (encTerm a).toArray, .agg (encTerm b).toArray] w0 fun r w' => r = .int .i64 (termCmp a b) ∧ Ext w0 w' := by
  have E : Ext w0 w0 := Ext.refl w0
  refine St.enter (N := 35) Tryz.func110 rfl Tryz.ntmps110 rfl ?_
  refine St.seq fun K0 hK0 => ?_
  refine St.region ?_
  refine St.box rfl rfl ?_
  intro w2 b2 hb2 hs2 e2 k2
  have qE2 := E.size
  replace E := Ext.trans E e2
  refine St.box rfl rfl ?_
  intro w3 b3 hb3 hs3 e3 k3
  have qE3 := E.size
  replace E := Ext.trans E e3
  replace k2 := k2.ext e3
  refine St.r (R.assign rfl) rfl rfl ?_
  refine St.nil ?_
  refine St.weak [(2, _), (3, _)] ⟨rfl, rfl, trivial⟩ ?_
  refine St.then_n ?_
  refine St.go hK0 ?_
  clear hK0
  refine St.seq fun K1 hK1 => ?_
  refine St.seq fun K2 hK2 => ?_
  refine St.region ?_
  refine St.r (R.fieldA Tryz.underlying44 rfl Tryz.sizeOf3 rfl rfl rfl) rfl rfl ?_
  refine St.r (R.load1 Tryz.isAgg3 rfl (k2.cells.at 0 rfl)) rfl rfl ?_
  refine St.r (R.fieldA Tryz.underlying44 rfl Tryz.sizeOf3 rfl rfl rfl) rfl rfl ?_
  refine St.r (R.load1 Tryz.isAgg3 rfl (k3.cells.at 0 rfl)) rfl rfl ?_
  refine St.r (R.neq rfl rfl) rfl rfl ?_
  refine St.nil ?_
  refine St.weak [(2, _), (3, _), (9, _)] ⟨rfl, rfl, rfl, trivial⟩ ?_
  refine St.then_n ?_
  refine St.go hK2 ?_
  clear hK2
  refine St.condD rfl (fun h9 => ?_) (fun h9 => ?_)
  ·
    refine St.seq fun K3 hK3 => ?_
    refine St.seq fun K4 hK4 => ?_
    refine St.region ?_
    refine St.r (R.fieldA Tryz.underlying44 rfl Tryz.sizeOf3 rfl rfl rfl) rfl rfl ?_
    refine St.r (R.load1 Tryz.isAgg3 rfl (k2.cells.at 0 rfl)) rfl rfl ?_
    refine St.r (R.fieldA Tryz.underlying44 rfl Tryz.sizeOf3 rfl rfl rfl) rfl rfl ?_
    refine St.r (R.load1 Tryz.isAgg3 rfl (k3.cells.at 0 rfl)) rfl rfl ?_
    refine St.r (R.lss rfl rfl) rfl rfl ?_
    refine St.nil ?_
    refine St.weak [(14, _)] ⟨rfl, trivial⟩ ?_
    refine St.then_n ?_
    refine St.go hK4 ?_
    clear hK4
    refine St.condD rfl (fun h14 => ?_) (fun h14 => ?_)
    ·
      refine St.seq fun K5 hK5 => ?_
      refine St.region ?_
      refine St.r (R.assign rfl) rfl rfl ?_
      refine St.nil ?_
      refine St.weak [(4, _)] ⟨rfl, trivial⟩ ?_
      refine St.then_n ?_
      refine St.go hK5 ?_
      clear hK5
      refine St.ret ?_
      refine St.then_r ?_
      refine St.then_r ?_
      refine St.ret1 Tryz.results110 rfl ?_
      exact ⟨_, rfl, by rw [termCmp_as, if_pos h9, if_pos h14], E⟩
    ·
      refine St.skip ?_
      refine St.then_n ?_
      refine St.go hK3 ?_
      clear hK3
      refine St.seq fun K6 hK6 => ?_
      refine St.region ?_
      refine St.r (R.assign rfl) rfl rfl ?_
      refine St.nil ?_
      refine St.weak [(4, _)] ⟨rfl, trivial⟩ ?_
      refine St.then_n ?_
      refine St.go hK6 ?_
      clear hK6
      refine St.ret ?_
      refine St.then_r ?_
      refine St.ret1 Tryz.results110 rfl ?_
      exact ⟨_, rfl, by rw [termCmp_as, if_pos h9, if_neg h14], E⟩
  ·
    refine St.skip ?_
    refine St.then_n ?_
    refine St.go hK1 ?_
    clear hK1
    refine St.seq fun K7 hK7 => ?_
    refine St.seq fun K8 hK8 => ?_
    refine St.region ?_
    refine St.r (R.fieldA Tryz.underlying44 rfl Tryz.sizeOf9 rfl rfl rfl) rfl rfl ?_
    refine St.r (R.load1 Tryz.isAgg9 rfl (k2.cells.at 1 rfl)) rfl rfl ?_
    refine St.r (R.fieldA Tryz.underlying44 rfl Tryz.sizeOf9 rfl rfl rfl) rfl rfl ?_
    refine St.r (R.load1 Tryz.isAgg9 rfl (k3.cells.at 1 rfl)) rfl rfl ?_
    refine St.r (R.neS rfl rfl) rfl rfl ?_
    refine St.nil ?_
    refine St.weak [(2, _), (3, _), (19, _)] ⟨rfl, rfl, rfl, trivial⟩ ?_
    refine St.then_n ?_
    refine St.go hK8 ?_
    clear hK8
    refine St.condD rfl (fun h19 => ?_) (fun h19 => ?_)
    ·
      refine St.seq fun K9 hK9 => ?_
      refine St.seq fun K10 hK10 => ?_
      refine St.region ?_
      refine St.r (R.fieldA Tryz.underlying44 rfl Tryz.sizeOf9 rfl rfl rfl) rfl rfl ?_
      refine St.r (R.load1 Tryz.isAgg9 rfl (k2.cells.at 1 rfl)) rfl rfl ?_
      refine St.r (R.fieldA Tryz.underlying44 rfl Tryz.sizeOf9 rfl rfl rfl) rfl rfl ?_
      refine St.r (R.load1 Tryz.isAgg9 rfl (k3.cells.at 1 rfl)) rfl rfl ?_
      refine St.r (R.ltS rfl rfl) rfl rfl ?_
      refine St.nil ?_
      refine St.weak [(24, _)] ⟨rfl, trivial⟩ ?_
      refine St.then_n ?_
      refine St.go hK10 ?_
      clear hK10
      refine St.condD rfl (fun h24 => ?_) (fun h24 => ?_)
      ·
        refine St.seq fun K11 hK11 => ?_
        refine St.region ?_
        refine St.r (R.assign rfl) rfl rfl ?_
        refine St.nil ?_
        refine St.weak [(4, _)] ⟨rfl, trivial⟩ ?_
        refine St.then_n ?_
        refine St.go hK11 ?_
        clear hK11
        refine St.ret ?_
        refine St.then_r ?_
        refine St.then_r ?_
        refine St.ret1 Tryz.results110 rfl ?_
        have hr := cmpS_range a.s b.s
        refine ⟨_, rfl, ?_, E⟩
        rw [termCmp_as, if_neg h9, if_pos h19]
        exact congrArg (Value.int .i64) (by omega)
      ·
        refine St.skip ?_
        refine St.then_n ?_
        refine St.go hK9 ?_
        clear hK9
        refine St.seq fun K12 hK12 => ?_
        refine St.region ?_
        refine St.r (R.assign rfl) rfl rfl ?_
        refine St.nil ?_
        refine St.weak [(4, _)] ⟨rfl, trivial⟩ ?_
        refine St.then_n ?_
        refine St.go hK12 ?_
        clear hK12
        refine St.ret ?_
        refine St.then_r ?_
        refine St.ret1 Tryz.results110 rfl ?_
        have h0 : cmpS a.s b.s ≠ 0 := fun e => h19 ((cmpS_is.eq a.s b.s).1 e)
        have hr := cmpS_range a.s b.s
        refine ⟨_, rfl, ?_, E⟩
        rw [termCmp_as, if_neg h9, if_pos h19]
        exact congrArg (Value.int .i64) (by omega)
    ·
      refine St.skip ?_
      refine St.then_n ?_
      refine St.go hK7 ?_
      clear hK7
      refine St.seq fun K13 hK13 => ?_
      refine St.seq fun K14 hK14 => ?_
      refine St.region ?_
      refine St.r (R.fieldA Tryz.underlying44 rfl Tryz.sizeOf9 rfl rfl rfl) rfl rfl ?_
      refine St.r (R.load1 Tryz.isAgg9 rfl (k2.cells.at 2 rfl)) rfl rfl ?_
      refine St.r (R.fieldA Tryz.underlying44 rfl Tryz.sizeOf9 rfl rfl rfl) rfl rfl ?_
      refine St.r (R.load1 Tryz.isAgg9 rfl (k3.cells.at 2 rfl)) rfl rfl ?_
      refine St.r (R.ltS rfl rfl) rfl rfl ?_
      refine St.nil ?_
      refine St.weak [(2, _), (3, _), (29, _)] ⟨rfl, rfl, rfl, trivial⟩ ?_
      refine St.then_n ?_
      refine St.go hK14 ?_
      clear hK14
      refine St.condD rfl (fun h29 => ?_) (fun h29 => ?_)
      ·
        refine St.seq fun K15 hK15 => ?_
        refine St.region ?_
        refine St.r (R.assign rfl) rfl rfl ?_
        refine St.nil ?_
        refine St.weak [(4, _)] ⟨rfl, trivial⟩ ?_
        refine St.then_n ?_
        refine St.go hK15 ?_
        clear hK15
        refine St.ret ?_
        refine St.then_r ?_
        refine St.ret1 Tryz.results110 rfl ?_
        have hr := cmpS_range a.lang b.lang
        refine ⟨_, rfl, ?_, E⟩
        rw [termCmp_as, if_neg h9, if_neg h19]
        exact congrArg (Value.int .i64) (by omega)
      ·
        refine St.skip ?_
        refine St.then_n ?_
        refine St.go hK13 ?_
        clear hK13
        refine St.seq fun K16 hK16 => ?_
        refine St.seq fun K17 hK17 => ?_
        refine St.region ?_
        refine St.r (R.fieldA Tryz.underlying44 rfl Tryz.sizeOf9 rfl rfl rfl) rfl rfl ?_
        refine St.r (R.load1 Tryz.isAgg9 rfl (k2.cells.at 2 rfl)) rfl rfl ?_
        refine St.r (R.fieldA Tryz.underlying44 rfl Tryz.sizeOf9 rfl rfl rfl) rfl rfl ?_
        refine St.r (R.load1 Tryz.isAgg9 rfl (k3.cells.at 2 rfl)) rfl rfl ?_
        refine St.r (R.gtS rfl rfl) rfl rfl ?_
        refine St.nil ?_
        refine St.weak [(34, _)] ⟨rfl, trivial⟩ ?_
        refine St.then_n ?_
        refine St.go hK17 ?_
        clear hK17
        refine St.condD rfl (fun h34 => ?_) (fun h34 => ?_)
        ·
          refine St.seq fun K18 hK18 => ?_
          refine St.region ?_
          refine St.r (R.assign rfl) rfl rfl ?_
          refine St.nil ?_
          refine St.weak [(4, _)] ⟨rfl, trivial⟩ ?_
          refine St.then_n ?_
          refine St.go hK18 ?_
          clear hK18
          refine St.ret ?_
          refine St.then_r ?_
          refine St.ret1 Tryz.results110 rfl ?_
          have hr := cmpS_range a.lang b.lang
          refine ⟨_, rfl, ?_, E⟩
          rw [termCmp_as, if_neg h9, if_neg h19]
          exact congrArg (Value.int .i64) (by omega)
        ·
          refine St.skip ?_
          refine St.then_n ?_
          refine St.go hK16 ?_
          clear hK16
          refine St.seq fun K19 hK19 => ?_
          refine St.region ?_
          refine St.r (R.assign rfl) rfl rfl ?_
          refine St.nil ?_
          refine St.weak [(4, _)] ⟨rfl, trivial⟩ ?_
          refine St.then_n ?_
          refine St.go hK19 ?_
          clear hK19
          refine St.ret ?_
          refine St.ret1 Tryz.results110 rfl ?_
          have hr := cmpS_range a.lang b.lang
          refine ⟨_, rfl, ?_, E⟩
          rw [termCmp_as, if_neg h9, if_neg h19]
          exact congrArg (Value.int .i64) (by omega)

theorem rOrder_ret {a b : Triple} (w0 : World) : Ret Tryz.prog 49 [.agg (encTriple a).toArray, .agg (encTriple b).toArray] w0 fun r w' => r = .int .i64 (tripCmp a b) ∧ Ext w0 w' := by
  have E : Ext w0 w0 := Ext.refl w0
  refine St.enter (N := 26) Tryz.func49 rfl Tryz.ntmps49 rfl ?_
  refine St.seq fun K0 hK0 => ?_
  refine St.region ?_
  refine St.box rfl rfl ?_
  intro w2 b2 hb2 hs2 e2 k2
  have qE2 := E.size
  replace E := Ext.trans E e2
  refine St.box rfl rfl ?_
  intro w3 b3 hb3 hs3 e3 k3
  have qE3 := E.size
  replace E := Ext.trans E e3
  replace k2 := k2.ext e3
  refine St.r (R.assign rfl) rfl rfl ?_
  refine St.nil ?_
  refine St.weak [(2, _), (3, _)] ⟨rfl, rfl, trivial⟩ ?_
  refine St.then_n ?_
  refine St.go hK0 ?_
  clear hK0
  refine St.seq fun K1 hK1 => ?_
  refine St.region ?_
  refine St.r (R.fieldA Tryz.underlying100 rfl Tryz.sizeOf44 rfl rfl rfl) rfl rfl ?_
  refine St.r (R.loadA Tryz.isAgg44 Tryz.sizeOf44 rfl (triple_s k2) rfl) rfl rfl ?_
  refine St.r (R.fieldA Tryz.underlying100 rfl Tryz.sizeOf44 rfl rfl rfl) rfl rfl ?_
  refine St.r (R.loadA Tryz.isAgg44 Tryz.sizeOf44 rfl (triple_s k3) rfl) rfl rfl ?_
  refine St.call rfl rfl ent110 (rCompare_ret _) rfl ?_
  rintro r10 w10 ⟨rfl, e10⟩
  replace E := Ext.trans E e10
  replace k2 := k2.ext e10
  replace k3 := k3.ext e10
  refine St.r (R.assign rfl) rfl rfl ?_
  refine St.nil ?_
  refine St.weak [(2, _), (3, _), (5, _)] ⟨rfl, rfl, rfl, trivial⟩ ?_
  refine St.then_n ?_
  refine St.go hK1 ?_
  clear hK1
  refine St.seqJ (fun (x : Unit) => match x with | () => [(2, .pointer (some ⟨b2, 0, none⟩)), (3, .pointer (some ⟨b3, 0, none⟩)), (5, .int .i64 (orI (termCmp a.s b.s) (termCmp a.p b.p)))])
      (fun (x : Unit) w => match x with | () => Ext w0 w ∧ Blk w b2 100 (encTriple a) ∧ Blk w b3 100 (encTriple b)) ?_ ?_
  · rintro _ w ⟨E, k2, k3⟩
    show St _ _ [(2, .pointer (some ⟨b2, 0, none⟩)), (3, .pointer (some ⟨b3, 0, none⟩)), (5, .int .i64 (orI (termCmp a.s b.s) (termCmp a.p b.p)))] _ _
    refine St.seqJ (fun (x : Unit) => match x with | () => [(5, .int .i64 (tripCmp a b))])
        (fun (x : Unit) w => match x with | () => Ext w0 w) ?_ ?_
    · rintro _ w E
      show St _ _ [(5, .int .i64 (tripCmp a b))] _ _
      refine St.seq fun K4 hK4 => ?_
      refine St.region ?_
      refine St.r (R.move rfl) rfl rfl ?_
      refine St.r (R.assign rfl) rfl rfl ?_
      refine St.nil ?_
      refine St.weak [(4, _)] ⟨rfl, trivial⟩ ?_
      refine St.then_n ?_
      refine St.go hK4 ?_
      clear hK4
      refine St.ret ?_
      refine St.ret1 Tryz.results49 rfl ?_
      exact ⟨_, rfl, rfl, E⟩
    intro K3 hK3
    refine St.seq fun K5 hK5 => ?_
    refine St.region ?_
    refine St.r (R.move rfl) rfl rfl ?_
    refine St.r (R.eql rfl rfl) rfl rfl ?_
    refine St.nil ?_
    refine St.weak [(2, _), (3, _), (5, _), (19, _)] ⟨rfl, rfl, rfl, rfl, trivial⟩ ?_
    refine St.then_n ?_
    refine St.go hK5 ?_
    clear hK5
    refine St.condD rfl (fun h19 => ?_) (fun h19 => ?_)
    ·
      refine St.region ?_
      refine St.r (R.fieldA Tryz.underlying100 rfl Tryz.sizeOf44 rfl rfl rfl) rfl rfl ?_
      refine St.r (R.loadA Tryz.isAgg44 Tryz.sizeOf44 rfl (triple_o k2) rfl) rfl rfl ?_
      refine St.r (R.fieldA Tryz.underlying100 rfl Tryz.sizeOf44 rfl rfl rfl) rfl rfl ?_
      refine St.r (R.loadA Tryz.isAgg44 Tryz.sizeOf44 rfl (triple_o k3) rfl) rfl rfl ?_
      refine St.call rfl rfl ent110 (rCompare_ret _) rfl ?_
      rintro r24 w24 ⟨rfl, e24⟩
      replace E := Ext.trans E e24
      replace k2 := k2.ext e24
      replace k3 := k3.ext e24
      refine St.r (R.assign rfl) rfl rfl ?_
      refine St.nil ?_
      refine St.weak [(5, _)] ⟨rfl, trivial⟩ ?_
      refine St.then_n ?_
      refine St.meet hK3 () ⟨(look_eq rfl (congrArg (Value.int .i64) (tc3 _ _ h19))), trivial⟩ ?_
      · exact E
    ·
      refine St.skip ?_
      refine St.then_n ?_
      refine St.meet hK3 () ⟨(look_eq rfl (congrArg (Value.int .i64) (tc2 _ _ h19))), trivial⟩ ?_
      · exact E
  intro K2 hK2
  refine St.seq fun K6 hK6 => ?_
  refine St.region ?_
  refine St.r (R.move rfl) rfl rfl ?_
  refine St.r (R.eql rfl rfl) rfl rfl ?_
  refine St.nil ?_
  refine St.weak [(2, _), (3, _), (5, _), (12, _)] ⟨rfl, rfl, rfl, rfl, trivial⟩ ?_
  refine St.then_n ?_
  refine St.go hK6 ?_
  clear hK6
  refine St.condD rfl (fun h12 => ?_) (fun h12 => ?_)
  ·
    refine St.region ?_
    refine St.r (R.fieldA Tryz.underlying100 rfl Tryz.sizeOf44 rfl rfl rfl) rfl rfl ?_
    refine St.r (R.loadA Tryz.isAgg44 Tryz.sizeOf44 rfl (triple_p k2) rfl) rfl rfl ?_
    refine St.r (R.fieldA Tryz.underlying100 rfl Tryz.sizeOf44 rfl rfl rfl) rfl rfl ?_
    refine St.r (R.loadA Tryz.isAgg44 Tryz.sizeOf44 rfl (triple_p k3) rfl) rfl rfl ?_
    refine St.call rfl rfl ent110 (rCompare_ret _) rfl ?_
    rintro r17 w17 ⟨rfl, e17⟩
    replace E := Ext.trans E e17
    replace k2 := k2.ext e17
    replace k3 := k3.ext e17
    refine St.r (R.assign rfl) rfl rfl ?_
    refine St.nil ?_
    refine St.weak [(2, _), (3, _), (5, _)] ⟨rfl, rfl, rfl, trivial⟩ ?_
    refine St.then_n ?_
    refine St.meet hK2 () ⟨rfl, rfl, (look_eq rfl (congrArg (Value.int .i64) (by rw [orI, h12]; simp))), trivial⟩ ?_
    · exact ⟨E, k2, k3⟩
  ·
    refine St.skip ?_
    refine St.then_n ?_
    refine St.meet hK2 () ⟨rfl, rfl, (look_eq rfl (congrArg (Value.int .i64) (by rw [orI, if_pos h12]))), trivial⟩ ?_
    · exact ⟨E, k2, k3⟩


end Go.Proofs.YtjgcmpondbocfaaGreatDoor
