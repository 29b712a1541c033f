/- The law PlanTells walked: whatever it reads, it comes to true. Under the reading of the arguments; the variable errors.errorType holds the handle of the type error. -/
import Derived.Test.YtjgcmpondbocfaaGreatDoorProg
import Derived.Test.YtjgcmpondbocfaaGreatDoorTansW
import Derived.Test.YtjgcmpondbocfaaGreatDoorErrs
namespace Go.Proofs.YtjgcmpondbocfaaGreatDoor
open Go.RowKit 
theorem ent8 : Ent Tryz.prog 8 := Ent.of Tryz.func8 (by kernel_rfl) rfl
theorem ent9 : Ent Tryz.prog 9 := Ent.of Tryz.func9 (by kernel_rfl) rfl
theorem ent10 : Ent Tryz.prog 10 := Ent.of Tryz.func10 (by kernel_rfl) rfl
theorem ent11 : Ent Tryz.prog 11 := Ent.of Tryz.func11 (by kernel_rfl) rfl
theorem ent12 : Ent Tryz.prog 12 := Ent.of Tryz.func12 (by kernel_rfl) rfl
theorem ent13 : Ent Tryz.prog 13 := Ent.of Tryz.func13 (by kernel_rfl) rfl
theorem ent14 : Ent Tryz.prog 14 := Ent.of Tryz.func14 (by kernel_rfl) rfl
theorem ent16 : Ent Tryz.prog 16 := Ent.of Tryz.func16 (by kernel_rfl) rfl
theorem ent17 : Ent Tryz.prog 17 := Ent.of Tryz.func17 (by kernel_rfl) rfl

theorem allErr_plan {l : List Triple} {q : Query} (h : planErr l q = none) : allErr l q = if fullQ l q then none else some 4 := by
  unfold planErr at h; unfold allErr
  cases hs : setErr l with
  | some e => rw [hs] at h; cases h
  | none => rw [hs] at h; simp only at h ⊢; rw [h]
theorem allErr_bad {l : List Triple} {q : Query} {e : Int} (h : planErr l q = some e) : allErr l q = some e := by
  unfold planErr at h; unfold allErr
  cases hs : setErr l with
  | some e => rw [hs] at h; simpa using h
  | none => rw [hs] at h; simp only at h ⊢; rw [h]
theorem planErr_pos {l : List Triple} {q : Query} {e : Int} (h : planErr l q = some e) : 0 < e := by
  unfold planErr at h
  cases hs : setErr l with
  | some e2 => rw [hs] at h; simp only at h; exact setErr_pos (by rw [hs]; exact h)
  | none => rw [hs] at h; exact queryErr_pos h
theorem planErr_0 {l : List Triple} {q : Query} : wrongI (planErr l q) = 0 ↔ planErr l q = none := wrong0 fun e h => by have := planErr_pos h; omega
theorem planErr_ok {l : List Triple} {q : Query} (h : planErr l q = none) : l.length ≤ 200 ∧ q.parts.length ≤ 6 ∧ 0 < q.parts.length ∧ partsErr q.parts = none := by
  unfold planErr at h
  cases hs : setErr l with
  | some e => rw [hs] at h; cases h
  | none =>
    rw [hs] at h
    obtain ⟨h6, h0, hp⟩ := query_few h
    exact ⟨(setErr_iff.1 hs).few, h6, h0, hp⟩
theorem wrongI_plan0 {l : List Triple} {q : Query} (h : setErr l = none) : wrongI (queryErr q) = wrongI (planErr l q) := by unfold planErr; rw [h]
theorem wrongI_plan1 {l : List Triple} {q : Query} {e : Int} (h : setErr l = some e) : wrongI (setErr l) = wrongI (planErr l q) := by unfold planErr; rw [h]

set_option maxHeartbeats 4000000 in
set_option maxRecDepth 100000 in
theorem PlanTells_ret {l : List Triple} {q : Query} {cs : List Value} {o : List Int} {v ov : Value} (w0 : World) (hg : ErrType w0) (hv : RTriples w0 v l) (hq : RQuery w0 cs q) (ho : RInts w0 ov o) (np : q.parts.length * 168 ≤ 140737488351232) (nv : q.vars.length * 16 ≤ 140737488351232) : Ret Tryz.prog 3 [v, .agg cs.toArray, ov] w0 fun r w' => r = .bool true ∧ Ext w0 w' := by
  have hq0 := hq
  obtain ⟨vv, pv, rfl, hvv, hpv⟩ := hq
  obtain ⟨PA, PC, rfl, -, -⟩ := hpv.form
  obtain ⟨WA, WC, rfl, -, -⟩ := hvv.form
  obtain ⟨OA, OC, rfl, hoc, -⟩ := ho.form
  have E : Ext w0 w0 := Ext.refl w0
  refine St.enter (N := 162) Tryz.func3 rfl Tryz.ntmps3 rfl ?_
  refine St.seq fun K0 hK0 => ?_
  refine St.region ?_
  refine St.box rfl rfl ?_
  intro w4 b4 hb4 hs4 e4 k4
  have qE4 := E.size
  replace E := Ext.trans E e4
  refine St.r (R.assign rfl) rfl rfl ?_
  refine St.nil ?_
  refine St.weak [(0, _), (2, _), (4, _)] ⟨rfl, rfl, rfl, trivial⟩ ?_
  refine St.then_n ?_
  refine St.go hK0 ?_
  clear hK0
  refine St.seq fun K1 hK1 => ?_
  refine St.region ?_
  refine St.r (R.move rfl) rfl rfl ?_
  refine St.call rfl rfl ent7 (rSet_ret _ (hv.ext (REnc.firm _) E)) rfl ?_
  rintro r28 w28 ⟨rfl, e28⟩
  replace E := Ext.trans E e28
  replace k4 := k4.ext e28
  refine St.r (R.assign rfl) rfl rfl ?_
  refine St.nil ?_
  refine St.weak [(0, _), (2, _), (4, _), (7, _)] ⟨rfl, rfl, rfl, rfl, trivial⟩ ?_
  refine St.then_n ?_
  refine St.go hK1 ?_
  clear hK1
  refine St.seqJ (fun (x : Unit) => match x with | () => [(0, v), (2, .slice OA o.length OC), (4, .pointer (some ⟨b4, 0, none⟩)), (7, .int .i64 (wrongI (planErr l q)))])
      (fun (x : Unit) w => match x with | () => Ext w0 w ∧ Blk w b4 26 [.slice WA q.vars.length WC, .slice PA q.parts.length PC, .string q.order, .bool q.down, .bool q.distinct, .int .i64 q.limit] ∧ w0.heap.size ≤ b4) ?_ ?_
  · rintro _ w ⟨E, k4, hb4⟩
    show St _ _ [(0, v), (2, .slice OA o.length OC), (4, .pointer (some ⟨b4, 0, none⟩)), (7, .int .i64 (wrongI (planErr l q)))] _ _
    refine St.seq fun K3 hK3 => ?_
    refine St.region ?_
    refine St.r (R.assign rfl) rfl rfl ?_
    refine St.nil ?_
    refine St.weak [(0, _), (2, _), (4, _), (7, _), (8, _)] ⟨rfl, rfl, rfl, rfl, rfl, trivial⟩ ?_
    refine St.then_n ?_
    refine St.go hK3 ?_
    clear hK3
    refine St.seqJ (fun (rv : Value) => [(0, v), (2, .slice OA o.length OC), (4, .pointer (some ⟨b4, 0, none⟩)), (7, .int .i64 (wrongI (planErr l q))), (8, rv)])
        (fun (rv : Value) w => Ext w0 w ∧ Blk w b4 26 [.slice WA q.vars.length WC, .slice PA q.parts.length PC, .string q.order, .bool q.down, .bool q.distinct, .int .i64 q.limit] ∧ w0.heap.size ≤ b4 ∧ RInts w rv (if (planErr l q).isSome then [] else orderL l q)) ?_ ?_
    · rintro rv w ⟨E, k4, hb4, r8⟩
      show St _ _ [(0, v), (2, .slice OA o.length OC), (4, .pointer (some ⟨b4, 0, none⟩)), (7, .int .i64 (wrongI (planErr l q))), (8, rv)] _ _
      refine St.seq fun K5 hK5 => ?_
      refine St.region ?_
      refine St.r (R.move rfl) rfl rfl ?_
      refine St.r (R.loadA Tryz.isAgg26 Tryz.sizeOf26 rfl k4.cells rfl) rfl rfl ?_
      refine St.call rfl rfl ent10 (Order_ret _ (hv.ext (REnc.firm _) E) (RQuery.firm _ _ _ _ E hq0)) rfl ?_
      rintro r41 w41 ⟨ov9, rfl, r9, e41⟩
      replace E := Ext.trans E e41
      replace k4 := k4.ext e41
      replace r8 := r8.ext (REnc.firm _) e41
      refine St.r (R.move rfl) rfl rfl ?_
      refine St.r (R.extract rfl rfl) rfl rfl ?_
      refine St.r (R.extract rfl rfl) rfl rfl ?_
      refine St.r (R.assign rfl) rfl rfl ?_
      refine St.r (R.assign rfl) rfl rfl ?_
      refine St.nil ?_
      refine St.weak [(0, _), (2, _), (4, _), (7, _), (8, _), (9, _), (10, _)] ⟨rfl, rfl, rfl, rfl, rfl, rfl, rfl, trivial⟩ ?_
      refine St.then_n ?_
      refine St.go hK5 ?_
      clear hK5
      refine St.seq fun K6 hK6 => ?_
      refine St.region ?_
      refine St.r (R.move rfl) rfl rfl ?_
      refine St.r (R.move rfl) rfl rfl ?_
      refine St.call rfl rfl ent11 (Error_ret _ (hg.ext E)) rfl ?_
      rintro r46 w46 ⟨rfl, e46⟩
      replace E := Ext.trans E e46
      replace k4 := k4.ext e46
      replace r8 := r8.ext (REnc.firm _) e46
      replace r9 := r9.ext (REnc.firm _) e46
      refine St.r (Runs.lit (c := true) (R.assign rfl) (decide_eq_true rfl)) rfl rfl ?_
      refine St.nil ?_
      refine St.weak [(0, _), (2, _), (4, _), (7, _), (8, _), (9, _), (11, _)] ⟨rfl, rfl, rfl, rfl, rfl, rfl, rfl, trivial⟩ ?_
      refine St.then_n ?_
      refine St.go hK6 ?_
      clear hK6
      refine St.seq fun K7 hK7 => ?_
      refine St.region ?_
      refine St.r (R.move rfl) rfl rfl ?_
      refine St.r (R.move rfl) rfl rfl ?_
      refine St.call rfl rfl ent12 (Ints_ret _ r9 r8) rfl ?_
      rintro r49 w49 ⟨rfl, e49⟩
      replace E := Ext.trans E e49
      replace k4 := k4.ext e49
      replace r8 := r8.ext (REnc.firm _) e49
      replace r9 := r9.ext (REnc.firm _) e49
      refine St.r (Runs.lit (c := true) (R.assign rfl) (decide_eq_true rfl)) rfl rfl ?_
      refine St.nil ?_
      refine St.weak [(0, _), (2, _), (4, _), (7, _), (11, _), (12, _)] ⟨rfl, rfl, rfl, rfl, rfl, rfl, trivial⟩ ?_
      refine St.then_n ?_
      refine St.go hK7 ?_
      clear hK7
      refine St.seq fun K8 hK8 => ?_
      refine St.region ?_
      refine St.r (R.assign rfl) rfl rfl ?_
      refine St.nil ?_
      refine St.weak [(0, _), (2, _), (4, _), (7, _), (11, _), (12, _), (13, _)] ⟨rfl, rfl, rfl, rfl, rfl, rfl, rfl, trivial⟩ ?_
      refine St.then_n ?_
      refine St.go hK8 ?_
      clear hK8
      refine St.seqJ (fun (x : Unit) => match x with | () => [(0, v), (2, .slice OA o.length OC), (4, .pointer (some ⟨b4, 0, none⟩)), (11, .bool true), (12, .bool true), (7, .int .i64 (wrongI (allErr l q))), (13, .int .i64 (if (allErr l q).isSome then 0 else (lookedN l [[]] q.parts : Int)))])
          (fun (x : Unit) w => match x with | () => Ext w0 w ∧ Blk w b4 26 [.slice WA q.vars.length WC, .slice PA q.parts.length PC, .string q.order, .bool q.down, .bool q.distinct, .int .i64 q.limit] ∧ w0.heap.size ≤ b4) ?_ ?_
      · rintro _ w ⟨E, k4, hb4⟩
        show St _ _ [(0, v), (2, .slice OA o.length OC), (4, .pointer (some ⟨b4, 0, none⟩)), (11, .bool true), (12, .bool true), (7, .int .i64 (wrongI (allErr l q))), (13, .int .i64 (if (allErr l q).isSome then 0 else (lookedN l [[]] q.parts : Int)))] _ _
        refine St.seq fun K10 hK10 => ?_
        refine St.region ?_
        refine St.r (R.move rfl) rfl rfl ?_
        refine St.r (R.loadA Tryz.isAgg26 Tryz.sizeOf26 rfl k4.cells rfl) rfl rfl ?_
        refine St.call rfl rfl ent14 (Cost_ret _ (hv.ext (REnc.firm _) E) (RQuery.firm _ _ _ _ E hq0)) rfl ?_
        rintro r67 w67 ⟨rfl, e67⟩
        replace E := Ext.trans E e67
        replace k4 := k4.ext e67
        refine St.r (R.move rfl) rfl rfl ?_
        refine St.r (R.extract rfl rfl) rfl rfl ?_
        refine St.r (R.extract rfl rfl) rfl rfl ?_
        refine St.r (R.assign rfl) rfl rfl ?_
        refine St.r (R.assign rfl) rfl rfl ?_
        refine St.nil ?_
        refine St.weak [(2, _), (4, _), (7, _), (10, _), (11, _), (12, _), (13, _), (18, _)] ⟨rfl, rfl, rfl, rfl, rfl, rfl, rfl, rfl, trivial⟩ ?_
        refine St.then_n ?_
        refine St.go hK10 ?_
        clear hK10
        refine St.seq fun K11 hK11 => ?_
        refine St.region ?_
        refine St.r (R.move rfl) rfl rfl ?_
        refine St.r (R.move rfl) rfl rfl ?_
        refine St.call rfl rfl ent11 (Error_ret _ (hg.ext E)) rfl ?_
        rintro r72 w72 ⟨rfl, e72⟩
        replace E := Ext.trans E e72
        replace k4 := k4.ext e72
        refine St.r (Runs.lit (c := true) (R.assign rfl) (decide_eq_true rfl)) rfl rfl ?_
        refine St.nil ?_
        refine St.weak [(2, _), (4, _), (11, _), (12, _), (13, _), (18, _), (19, _)] ⟨rfl, rfl, rfl, rfl, rfl, rfl, rfl, trivial⟩ ?_
        refine St.then_n ?_
        refine St.go hK11 ?_
        clear hK11
        refine St.seq fun K12 hK12 => ?_
        refine St.region ?_
        refine St.r (R.assign rfl) rfl rfl ?_
        refine St.nil ?_
        refine St.weak [(2, _), (4, _), (7, _), (11, _), (12, _), (13, _), (18, _), (19, _)] ⟨rfl, rfl, rfl, rfl, rfl, rfl, rfl, rfl, trivial⟩ ?_
        refine St.then_n ?_
        refine St.go hK12 ?_
        clear hK12
        refine St.seq fun K13 hK13 => ?_
        refine St.region ?_
        refine St.r (R.assign rfl) rfl rfl ?_
        refine St.nil ?_
        refine St.weak [(2, _), (4, _), (7, _), (11, _), (12, _), (13, _), (18, _), (19, _), (20, _)] ⟨rfl, rfl, rfl, rfl, rfl, rfl, rfl, rfl, rfl, trivial⟩ ?_
        refine St.then_n ?_
        refine St.go hK13 ?_
        clear hK13
        refine St.seqJ (fun (x : Unit) => match x with | () => [(2, .slice OA o.length OC), (4, .pointer (some ⟨b4, 0, none⟩)), (11, .bool true), (12, .bool true), (13, .int .i64 (if (allErr l q).isSome then 0 else (lookedN l [[]] q.parts : Int))), (18, .int .i64 (if (allErr l q).isSome then 0 else (lookedN l [[]] q.parts : Int))), (19, .bool true), (7, .int .i64 (if (o.length : Int) ≠ (q.parts.length : Int) then 3 else 0)), (20, .slice none 0 0)])
            (fun (x : Unit) w => match x with | () => Ext w0 w ∧ Blk w b4 26 [.slice WA q.vars.length WC, .slice PA q.parts.length PC, .string q.order, .bool q.down, .bool q.distinct, .int .i64 q.limit] ∧ w0.heap.size ≤ b4) ?_ ?_
        · rintro _ w ⟨E, k4, hb4⟩
          show St _ _ [(2, .slice OA o.length OC), (4, .pointer (some ⟨b4, 0, none⟩)), (11, .bool true), (12, .bool true), (13, .int .i64 (if (allErr l q).isSome then 0 else (lookedN l [[]] q.parts : Int))), (18, .int .i64 (if (allErr l q).isSome then 0 else (lookedN l [[]] q.parts : Int))), (19, .bool true), (7, .int .i64 (if (o.length : Int) ≠ (q.parts.length : Int) then 3 else 0)), (20, .slice none 0 0)] _ _
          refine St.seqJ (fun (x : List Pat × Value) => match x with | (pl, pv20) => [(2, .slice OA o.length OC), (4, .pointer (some ⟨b4, 0, none⟩)), (11, .bool true), (12, .bool true), (13, .int .i64 (if (allErr l q).isSome then 0 else (lookedN l [[]] q.parts : Int))), (18, .int .i64 (if (allErr l q).isSome then 0 else (lookedN l [[]] q.parts : Int))), (19, .bool true), (7, .int .i64 (wrongI (swapErr q o))), (20, pv20)])
              (fun (x : List Pat × Value) w => match x with | (pl, pv20) => Ext w0 w ∧ Blk w b4 26 [.slice WA q.vars.length WC, .slice PA q.parts.length PC, .string q.order, .bool q.down, .bool q.distinct, .int .i64 q.limit] ∧ w0.heap.size ≤ b4 ∧ (∃ Z, Own encPat 12 Z 48 w pv20 pl) ∧ (swapErr q o = none → pl = o.map (partAt q.parts))) ?_ ?_
          · rintro ⟨pl, pv20⟩ w ⟨E, k4, hb4, ⟨Z, o20⟩, hpl⟩
            show St _ _ [(2, .slice OA o.length OC), (4, .pointer (some ⟨b4, 0, none⟩)), (11, .bool true), (12, .bool true), (13, .int .i64 (if (allErr l q).isSome then 0 else (lookedN l [[]] q.parts : Int))), (18, .int .i64 (if (allErr l q).isSome then 0 else (lookedN l [[]] q.parts : Int))), (19, .bool true), (7, .int .i64 (wrongI (swapErr q o))), (20, pv20)] _ _
            obtain ⟨TA, TC, rfl, -, -⟩ := o20.form
            refine St.seq fun K16 hK16 => ?_
            refine St.region ?_
            refine St.r (R.loadA Tryz.isAgg26 Tryz.sizeOf26 rfl k4.cells rfl) rfl rfl ?_
            have y4 := k4.lt
            have hoL := fun k hk => (o20.base (k := k) hk).2
            refine St.alloc Tryz.zeroValue26 rfl ?_
            intro w23 b23 hb23 hs23 e23 k23
            have qE23 := E.size
            replace E := Ext.trans E e23
            replace k4 := k4.ext e23
            replace o20 := o20.ext e23
            refine St.store Tryz.sizeOf26 rfl rfl k23 rfl (by simp [Value.cells]) (by intro u hu; simp [Value.cells] at hu; rcases hu with rfl | rfl | rfl | rfl | rfl | rfl <;> rfl) ?_
            intro ws0 ks0 gs0 zs0
            replace E := Ext.then E gs0 (by intro j hj; omega)
            replace k4 := k4.chg gs0 (by omega)
            replace o20 := o20.chg gs0 (fun k hk h => by have := hoL k hk; omega)
            clear k23; have k23 := ks0; clear ks0
            replace k23 : Blk ws0 b23 26 [.slice WA q.vars.length WC, .slice PA q.parts.length PC, .string q.order, .bool q.down, .bool q.distinct, .int .i64 q.limit] := k23
            refine St.nil ?_
            refine St.weak [(2, _), (4, _), (7, _), (11, _), (12, _), (13, _), (18, _), (19, _), (20, _), (23, _)] ⟨rfl, rfl, rfl, rfl, rfl, rfl, rfl, rfl, rfl, rfl, trivial⟩ ?_
            refine St.then_n ?_
            refine St.go hK16 ?_
            clear hK16
            refine St.seq fun K17 hK17 => ?_
            refine St.region ?_
            refine St.r (R.move rfl) rfl rfl ?_
            refine St.r (R.fieldA Tryz.underlying26 rfl Tryz.sizeOf24 rfl rfl rfl) rfl rfl ?_
            refine St.store Tryz.sizeOf24 rfl rfl k23 rfl (by simp) (by simp [Value.cells, Value.oneCell']) ?_
            intro ws1 ks1 gs1 zs1
            replace E := Ext.then E gs1 (by intro j hj; omega)
            replace k4 := k4.chg gs1 (by omega)
            replace o20 := o20.chg gs1 (fun k hk h => by have := hoL k hk; omega)
            clear k23; have k23 := ks1; clear ks1
            replace k23 : Blk ws1 b23 26 [.slice WA q.vars.length WC, .slice TA pl.length TC, .string q.order, .bool q.down, .bool q.distinct, .int .i64 q.limit] := k23
            refine St.nil ?_
            refine St.weak [(2, _), (4, _), (7, _), (11, _), (12, _), (13, _), (18, _), (19, _), (23, _)] ⟨rfl, rfl, rfl, rfl, rfl, rfl, rfl, rfl, rfl, trivial⟩ ?_
            refine St.then_n ?_
            refine St.go hK17 ?_
            clear hK17
            refine St.seqJ (fun (x : Nat × List Value) => match x with | (b23, ds) => [(2, .slice OA o.length OC), (4, .pointer (some ⟨b4, 0, none⟩)), (7, .int .i64 (wrongI (swapErr q o))), (11, .bool true), (12, .bool true), (13, .int .i64 (if (allErr l q).isSome then 0 else (lookedN l [[]] q.parts : Int))), (18, .int .i64 (if (allErr l q).isSome then 0 else (lookedN l [[]] q.parts : Int))), (19, .bool true), (23, .pointer (some ⟨b23, 0, none⟩))])
                (fun (x : Nat × List Value) w => match x with | (b23, ds) => Ext w0 w ∧ Blk w b4 26 [.slice WA q.vars.length WC, .slice PA q.parts.length PC, .string q.order, .bool q.down, .bool q.distinct, .int .i64 q.limit] ∧ Blk w b23 26 ds ∧ RQuery w ds (if (swapErr q o).isSome then zeroQ else swapQ q o) ∧ ds.length = 6) ?_ ?_
            · rintro ⟨b23, ds⟩ w ⟨E, k4, k23, hds, hd6⟩
              show St _ _ [(2, .slice OA o.length OC), (4, .pointer (some ⟨b4, 0, none⟩)), (7, .int .i64 (wrongI (swapErr q o))), (11, .bool true), (12, .bool true), (13, .int .i64 (if (allErr l q).isSome then 0 else (lookedN l [[]] q.parts : Int))), (18, .int .i64 (if (allErr l q).isSome then 0 else (lookedN l [[]] q.parts : Int))), (19, .bool true), (23, .pointer (some ⟨b23, 0, none⟩))] _ _
              have hds0 := hds
              obtain ⟨dv, dp, rfl, -, -⟩ := hds
              have E2 := Ext.refl w
              refine St.seq fun K19 hK19 => ?_
              refine St.region ?_
              refine St.r (R.loadA Tryz.isAgg26 Tryz.sizeOf26 rfl k4.cells rfl) rfl rfl ?_
              refine St.r (R.move rfl) rfl rfl ?_
              refine St.call rfl rfl ent16 (Swap_ret _ (RQuery.firm _ _ _ _ E hq0) (ho.ext (REnc.firm _) E) np nv) rfl ?_
              rintro r135 w135 ⟨xs, rfl, hxs, e135⟩
              replace E := Ext.trans E e135
              replace E2 := Ext.trans E2 e135
              replace k4 := k4.ext e135
              replace k23 := k23.ext e135
              have hxs0 := hxs
              obtain ⟨xv, xp, rfl, hxv, hxp⟩ := hxs
              obtain ⟨XA, XC, rfl, -, -⟩ := hxv.form
              obtain ⟨YA, YC, rfl, -, -⟩ := hxp.form
              have E3 := Ext.refl w135
              refine St.r (R.move rfl) rfl rfl ?_
              refine St.r (R.extract rfl rfl) rfl rfl ?_
              refine St.r (R.extract rfl rfl) rfl rfl ?_
              have y4b := k4.lt
              have y23b := k23.lt
              refine St.alloc Tryz.zeroValue26 rfl ?_
              intro w24 b24 hb24 hs24 e24 k24
              have qE24 := E.size
              have qE224 := E2.size
              have qE324 := E3.size
              replace E := Ext.trans E e24
              replace E2 := Ext.trans E2 e24
              replace E3 := Ext.trans E3 e24
              replace k4 := k4.ext e24
              replace k23 := k23.ext e24
              refine St.store Tryz.sizeOf26 rfl rfl k24 rfl (by simp [Value.cells]) (by intro u hu; simp [Value.cells] at hu; rcases hu with rfl | rfl | rfl | rfl | rfl | rfl <;> rfl) ?_
              intro ws3 ks3 gs3 zs3
              replace E := Ext.then E gs3 (by intro j hj; omega)
              replace E2 := Ext.then E2 gs3 (by intro j hj; omega)
              replace E3 := Ext.then E3 gs3 (by intro j hj; omega)
              replace k4 := k4.chg gs3 (by omega)
              replace k23 := k23.chg gs3 (by omega)
              clear k24; have k24 := ks3; clear ks3
              replace k24 : Blk ws3 b24 26 [.slice XA (if (swapErr q o).isSome then zeroQ else swapQ q o).vars.length XC, .slice YA (if (swapErr q o).isSome then zeroQ else swapQ q o).parts.length YC, .string (if (swapErr q o).isSome then zeroQ else swapQ q o).order, .bool (if (swapErr q o).isSome then zeroQ else swapQ q o).down, .bool (if (swapErr q o).isSome then zeroQ else swapQ q o).distinct, .int .i64 (if (swapErr q o).isSome then zeroQ else swapQ q o).limit] := k24
              refine St.r (R.assign rfl) rfl rfl ?_
              refine St.nil ?_
              refine St.weak [(7, _), (10, _), (11, _), (12, _), (13, _), (18, _), (19, _), (23, _), (24, _)] ⟨rfl, rfl, rfl, rfl, rfl, rfl, rfl, rfl, rfl, trivial⟩ ?_
              refine St.then_n ?_
              refine St.go hK19 ?_
              clear hK19
              refine St.seq fun K20 hK20 => ?_
              refine St.region ?_
              refine St.r (R.move rfl) rfl rfl ?_
              refine St.r (R.move rfl) rfl rfl ?_
              refine St.call rfl rfl ent11 (Error_ret _ (hg.ext E)) rfl ?_
              rintro r140 w140 ⟨rfl, e140⟩
              replace E := Ext.trans E e140
              replace E2 := Ext.trans E2 e140
              replace E3 := Ext.trans E3 e140
              replace k4 := k4.ext e140
              replace k23 := k23.ext e140
              replace k24 := k24.ext e140
              refine St.r (Runs.lit (c := true) (R.assign rfl) (decide_eq_true rfl)) rfl rfl ?_
              refine St.nil ?_
              refine St.weak [(11, _), (12, _), (13, _), (18, _), (19, _), (23, _), (24, _), (25, _)] ⟨rfl, rfl, rfl, rfl, rfl, rfl, rfl, rfl, trivial⟩ ?_
              refine St.then_n ?_
              refine St.go hK20 ?_
              clear hK20
              refine St.seq fun K21 hK21 => ?_
              refine St.region ?_
              refine St.r (R.loadA Tryz.isAgg26 Tryz.sizeOf26 rfl k24.cells rfl) rfl rfl ?_
              refine St.r (R.loadA Tryz.isAgg26 Tryz.sizeOf26 rfl k23.cells rfl) rfl rfl ?_
              refine St.call rfl rfl ent17 (sQuery_ret (a := (if (swapErr q o).isSome then zeroQ else swapQ q o)) (b := (if (swapErr q o).isSome then zeroQ else swapQ q o)) _ (RQuery.firm _ _ _ _ E3 hxs0) (RQuery.firm _ _ _ _ E2 hds0)) rfl ?_
              rintro r143 w143 ⟨rfl, e143⟩
              replace E := Ext.trans E e143
              replace E2 := Ext.trans E2 e143
              replace E3 := Ext.trans E3 e143
              replace k4 := k4.ext e143
              replace k23 := k23.ext e143
              replace k24 := k24.ext e143
              refine St.r (Runs.lit (c := true) (R.assign rfl) (sameQ_refl _)) rfl rfl ?_
              refine St.nil ?_
              refine St.weak [(11, _), (12, _), (13, _), (18, _), (19, _), (25, _), (26, _)] ⟨rfl, rfl, rfl, rfl, rfl, rfl, rfl, trivial⟩ ?_
              refine St.then_n ?_
              refine St.go hK21 ?_
              clear hK21
              refine St.seq fun K22 hK22 => ?_
              refine St.region ?_
              refine St.r (Runs.lit (c := true) (R.move rfl) (rfl)) rfl rfl ?_
              refine St.r (R.move rfl) rfl rfl ?_
              refine St.take (dg := 145) rfl rfl ?_ rfl
              refine St.r (Runs.lit (c := true) (R.move rfl) (rfl)) rfl rfl ?_
              refine St.r (R.pickT rfl rfl) rfl rfl ?_
              refine St.r (R.move rfl) rfl rfl ?_
              refine St.take (dg := 148) rfl rfl ?_ rfl
              refine St.r (Runs.lit (c := true) (R.move rfl) (rfl)) rfl rfl ?_
              refine St.r (R.pickT rfl rfl) rfl rfl ?_
              refine St.r (R.move rfl) rfl rfl ?_
              refine St.take (dg := 151) rfl rfl ?_ rfl
              refine St.r (Runs.lit (c := true) (R.move rfl) (rfl)) rfl rfl ?_
              refine St.r (R.pickT rfl rfl) rfl rfl ?_
              refine St.r (R.move rfl) rfl rfl ?_
              refine St.take (dg := 154) rfl rfl ?_ rfl
              refine St.r (Runs.lit (c := true) (R.move rfl) (rfl)) rfl rfl ?_
              refine St.r (R.pickT rfl rfl) rfl rfl ?_
              refine St.r (R.move rfl) rfl rfl ?_
              refine St.take (dg := 157) rfl rfl ?_ rfl
              refine St.r (R.move rfl) rfl rfl ?_
              refine St.take (dg := 157) rfl rfl ?_ rfl
              refine St.r (R.move rfl) rfl rfl ?_
              refine St.take (dg := 157) rfl rfl ?_ rfl
              refine St.r (Runs.lit (c := true) (R.eql rfl rfl) (decide_eq_true rfl)) rfl rfl ?_
              refine St.r (R.pickT rfl rfl) rfl rfl ?_
              refine St.r (R.assign rfl) rfl rfl ?_
              refine St.nil ?_
              refine St.weak [(6, _)] ⟨rfl, trivial⟩ ?_
              refine St.then_n ?_
              refine St.go hK22 ?_
              clear hK22
              refine St.ret ?_
              refine St.ret1 Tryz.results3 rfl ?_
              exact ⟨_, rfl, rfl, E⟩
            intro K18 hK18
            refine St.seq fun K23 hK23 => ?_
            refine St.region ?_
            refine St.r (R.move rfl) rfl rfl ?_
            refine St.r (R.neq rfl rfl) rfl rfl ?_
            refine St.nil ?_
            refine St.weak [(2, _), (4, _), (7, _), (11, _), (12, _), (13, _), (18, _), (19, _), (23, _), (130, _)] ⟨rfl, rfl, rfl, rfl, rfl, rfl, rfl, rfl, rfl, rfl, trivial⟩ ?_
            refine St.then_n ?_
            refine St.go hK23 ?_
            clear hK23
            refine St.condD rfl (fun h130 => ?_) (fun h130 => ?_)
            ·
              obtain ⟨es, hes⟩ : ∃ e, swapErr q o = some e := by
                cases hc : swapErr q o with
                | none => rw [hc] at h130; exact absurd rfl h130
                | some e => exact ⟨e, rfl⟩
              refine St.region ?_
              refine St.r (R.build Tryz.underlying26 (places26 _ Tryz.underlying26) Tryz.zeroValue26 rfl rfl rfl) rfl rfl ?_
              refine St.store Tryz.sizeOf26 rfl rfl k23 rfl (by simp [Value.cells]) (by intro u hu; simp [Value.cells] at hu; rcases hu with rfl | rfl | rfl | rfl | rfl | rfl <;> rfl) ?_
              intro ws2 ks2 gs2 zs2
              replace E := Ext.then E gs2 (by intro j hj; omega)
              replace k4 := k4.chg gs2 (by omega)
              replace o20 := o20.chg gs2 (fun k hk h => by have := hoL k hk; omega)
              clear k23; have k23 := ks2; clear ks2
              replace k23 : Blk ws2 b23 26 [.slice none 0 0, .slice none 0 0, .string ⟨#[]⟩, .bool false, .bool false, .int .i64 0] := k23
              refine St.nil ?_
              refine St.weak [(2, _), (4, _), (7, _), (11, _), (12, _), (13, _), (18, _), (19, _), (23, _)] ⟨rfl, rfl, rfl, rfl, rfl, rfl, rfl, rfl, rfl, trivial⟩ ?_
              refine St.then_n ?_
              refine St.meet hK18 (b23, [.slice none 0 0, .slice none 0 0, .string ⟨#[]⟩, .bool false, .bool false, .int .i64 0]) ⟨rfl, rfl, rfl, rfl, rfl, rfl, rfl, rfl, rfl, trivial⟩ ?_
              · try dsimp only
                exact ⟨E, k4, k23, by rw [hes]; exact ⟨_, _, rfl, RSl.nil _ _ _, RSl.nil _ _ _⟩, rfl⟩
            ·
              have hes : swapErr q o = none := by
                cases hc : swapErr q o with
                | none => rfl
                | some e =>
                  have h3 : e = 3 := by
                    unfold swapErr at hc
                    split at hc
                    · injection hc with hc; omega
                    · split at hc
                      · cases hc
                      · injection hc with hc; omega
                  rw [hc, h3] at h130; exact absurd (by decide) h130
              obtain rfl := hpl hes
              refine St.skip ?_
              refine St.then_n ?_
              refine St.meet hK18 (b23, [.slice WA q.vars.length WC, .slice TA (o.map (partAt q.parts)).length TC, .string q.order, .bool q.down, .bool q.distinct, .int .i64 q.limit]) ⟨rfl, rfl, rfl, rfl, rfl, rfl, rfl, rfl, rfl, trivial⟩ ?_
              · try dsimp only
                exact ⟨E, k4, k23, by rw [hes]; exact ⟨_, _, rfl, hvv.ext (REnc.firm _) E, o20.reads encPat_len⟩, rfl⟩
          intro K15 hK15
          refine St.seq fun K24 hK24 => ?_
          refine St.region ?_
          refine St.r (R.assign rfl) rfl rfl ?_
          refine St.nil ?_
          refine St.weak [(2, _), (4, _), (7, _), (11, _), (12, _), (13, _), (18, _), (19, _), (20, _), (21, _)] ⟨rfl, rfl, rfl, rfl, rfl, rfl, rfl, rfl, rfl, rfl, trivial⟩ ?_
          refine St.then_n ?_
          refine St.go hK24 ?_
          clear hK24
          refine St.block ?_
          obtain ⟨Z, hZ⟩ : ∃ Z, Z = w.heap.size := ⟨_, rfl⟩
          have zz : Z ≤ w.heap.size := by omega
          have hb4Z : b4 < Z := by have := k4.lt; omega
          refine St.loop (fun (x : Nat × Int × List Pat × Value) => match x with | (k, e7, pl, pv20) => [(2, .slice OA o.length OC), (4, .pointer (some ⟨b4, 0, none⟩)), (11, .bool true), (12, .bool true), (13, .int .i64 (if (allErr l q).isSome then 0 else (lookedN l [[]] q.parts : Int))), (18, .int .i64 (if (allErr l q).isSome then 0 else (lookedN l [[]] q.parts : Int))), (19, .bool true), (7, .int .i64 e7), (20, pv20), (21, .int .i64 (k : Int))])
              (fun (x : Nat × Int × List Pat × Value) w => match x with | (k, e7, pl, pv20) => k ≤ o.length ∧ Ext w0 w ∧ Blk w b4 26 [.slice WA q.vars.length WC, .slice PA q.parts.length PC, .string q.order, .bool q.down, .bool q.distinct, .int .i64 q.limit] ∧ Own encPat 12 Z 48 w pv20 pl ∧ Z ≤ w.heap.size ∧ (e7 = 0 → (o.length : Int) = (q.parts.length : Int) ∧ (∀ i x, i < k → o[i]? = some x → (0 ≤ x ∧ x < (q.parts.length : Int)) ∧ ¬ x ∈ o.take i) ∧ pl = (o.take k).map (partAt q.parts)) ∧ (e7 ≠ 0 → e7 = 3 ∧ swapErr q o = some 3))
              (fun (x : Nat × Int × List Pat × Value) => match x with | (k, e7, pl, pv20) => o.length - k) (0, (if (o.length : Int) ≠ (q.parts.length : Int) then 3 else 0), [], .slice none 0 0) ⟨rfl, rfl, rfl, rfl, rfl, rfl, rfl, rfl, rfl, rfl, trivial⟩ ?_ ?_
          · refine ⟨Nat.zero_le _, E, k4, Own.nil _ _ _ _ _, zz, fun h => ?_, fun h => ?_⟩
            · split at h
              · omega
              · rename_i hn; exact ⟨Decidable.not_not.1 hn, fun i x hi => by omega, by simp⟩
            · split at h
              · rename_i hn; exact ⟨if_pos hn, by rw [swapErr, if_pos hn]⟩
              · exact absurd rfl h
          rintro ⟨k, e7, pl, pv20⟩ w ⟨hk, E, k4, o20, zz, hgood, hbad⟩
          show St _ _ [(2, .slice OA o.length OC), (4, .pointer (some ⟨b4, 0, none⟩)), (11, .bool true), (12, .bool true), (13, .int .i64 (if (allErr l q).isSome then 0 else (lookedN l [[]] q.parts : Int))), (18, .int .i64 (if (allErr l q).isSome then 0 else (lookedN l [[]] q.parts : Int))), (19, .bool true), (7, .int .i64 e7), (20, pv20), (21, .int .i64 (k : Int))] _ _
          refine St.seq fun K25 hK25 => ?_
          refine St.seq fun K26 hK26 => ?_
          by_cases h82 : (k : Int) < (o.length : Int)
          ·
            refine St.region ?_
            refine St.r (R.move rfl) rfl rfl ?_
            refine St.r (R.move rfl) rfl rfl ?_
            refine St.r (R.lenSl Tryz.underlying27 rfl) rfl rfl ?_
            refine St.r (Runs.lit (c := true) (R.lss rfl rfl) (decide_eq_true h82)) rfl rfl ?_
            refine St.r (R.move rfl) rfl rfl ?_
            refine St.take (dg := 83) rfl rfl ?_ rfl
            refine St.r (R.move rfl) rfl rfl ?_
            refine St.take (dg := 83) rfl rfl ?_ rfl
            refine St.r (R.eql rfl rfl) rfl rfl ?_
            refine St.r (R.pickT rfl rfl) rfl rfl ?_
            refine St.nil ?_
            refine St.weak [(2, _), (4, _), (7, _), (11, _), (12, _), (13, _), (18, _), (19, _), (20, _), (21, _), (86, _)] ⟨rfl, rfl, rfl, rfl, rfl, rfl, rfl, rfl, rfl, rfl, rfl, trivial⟩ ?_
            refine St.then_n ?_
            refine St.go hK26 ?_
            clear hK26
            refine St.condD rfl (fun h86 => ?_) (fun h86 => ?_)
            ·
              obtain ⟨x, hx⟩ := get_of_lt (xs := o) (k := k) (by omega)
              obtain ⟨ob, oo, rfl, hxc⟩ := ho.get' hx
              have hzz := zz
              obtain ⟨g1, g2, g3⟩ := hgood h86
              have hpll : pl.length ≤ o.length := by rw [g3, List.length_map, List.length_take]; omega
              refine St.skip ?_
              refine St.then_n ?_
              refine St.go hK25 ?_
              clear hK25
              refine St.seq fun K27 hK27 => ?_
              refine St.block ?_
              refine St.seq fun K28 hK28 => ?_
              refine St.weak [(2, _), (4, _), (7, _), (11, _), (12, _), (13, _), (18, _), (19, _), (20, _), (21, _)] ⟨rfl, rfl, rfl, rfl, rfl, rfl, rfl, rfl, rfl, rfl, trivial⟩ ?_
              refine St.drawX mixed rfl rfl rfl rfl ?_
              replace E := Ext.trans E (Ext.drew _)
              replace k4 := k4.ext (Ext.drew _)
              replace o20 := o20.ext (Ext.drew _)
              replace zz := Nat.le_trans zz (Chg.size (Ext.drew _))
              refine ⟨_, fun W eW => OpX.q (OpOk.r (R.move rfl) rfl), ?_⟩
              refine ⟨_, fun W eW => OpX.q (OpOk.r (R.move rfl) rfl), ?_⟩
              refine ⟨_, fun W eW => OpX.q (OpOk.r (R.cutHi k Tryz.underlying27 Tryz.sizeOf3 rfl rfl rfl (by omega)) rfl), ?_⟩
              refine ⟨_, fun W eW => OpX.q (OpOk.r (R.move rfl) rfl), ?_⟩
              refine ⟨_, fun W eW => OpX.q (OpOk.r (R.move rfl) rfl), ?_⟩
              refine ⟨_, fun W eW => OpX.q (OpOk.r (R.indexS k Tryz.underlying27 Tryz.sizeOf3 rfl rfl rfl (by omega)) rfl), ?_⟩
              refine ⟨_, fun W eW => OpX.q (OpOk.r (R.load1 Tryz.isAgg3 rfl (((Ext.trans E eW).cells hxc).at 0 rfl)) rfl), ?_⟩
              refine ⟨_, fun W eW => OpX.call rfl rfl ent15 (In_ret _ ((RSl.take ho (k := k) (by omega)).ext (REnc.firm _) (Ext.trans E eW))), ?_⟩
              refine ⟨_, fun W eW => OpX.q (OpOk.r (R.assign rfl) rfl), ?_⟩
              show ∀ w', Ext _ w' → St _ _ _ _ w'
              intro wd26 ed26
              replace E := Ext.trans E ed26
              replace k4 := k4.ext ed26
              replace o20 := o20.ext ed26
              replace zz := Nat.le_trans zz (Chg.size ed26)
              refine St.weak [(2, _), (4, _), (7, _), (11, _), (12, _), (13, _), (18, _), (19, _), (20, _), (21, _), (22, _)] ⟨rfl, rfl, rfl, rfl, rfl, rfl, rfl, rfl, rfl, rfl, rfl, trivial⟩ ?_
              refine St.then_n ?_
              refine St.go hK28 ?_
              clear hK28
              refine St.seq fun K29 hK29 => ?_
              by_cases h101 : x < 0
              ·
                refine St.weak [(2, _), (4, _), (7, _), (11, _), (12, _), (13, _), (18, _), (19, _), (20, _), (21, _), (22, _)] ⟨rfl, rfl, rfl, rfl, rfl, rfl, rfl, rfl, rfl, rfl, rfl, trivial⟩ ?_
                refine St.draw mixed rfl rfl rfl rfl ?_
                replace E := Ext.trans E (Ext.drew _)
                replace k4 := k4.ext (Ext.drew _)
                replace o20 := o20.ext (Ext.drew _)
                replace zz := Nat.le_trans zz (Chg.size (Ext.drew _))
                refine ⟨_, OpOk.r (R.move rfl) rfl, ?_⟩
                refine ⟨_, OpOk.r (R.move rfl) rfl, ?_⟩
                refine ⟨_, OpOk.r (R.indexS k Tryz.underlying27 Tryz.sizeOf3 rfl rfl rfl (by omega)) rfl, ?_⟩
                refine ⟨_, OpOk.r (R.load1 Tryz.isAgg3 rfl ((E.cells hxc).at 0 rfl)) rfl, ?_⟩
                refine ⟨_, OpOk.r (Runs.lit (c := true) (R.lss rfl rfl) (decide_eq_true h101)) rfl, ?_⟩
                refine ⟨_, OpOk.r (R.move rfl) rfl, ?_⟩
                refine ⟨_, OpOk.pass (dg := 102) rfl rfl rfl rfl rfl, ?_⟩
                refine ⟨_, OpOk.pass (dg := 102) rfl rfl rfl rfl rfl, ?_⟩
                refine ⟨_, OpOk.pass (dg := 102) rfl rfl rfl rfl rfl, ?_⟩
                refine ⟨_, OpOk.pass (dg := 102) rfl rfl rfl rfl rfl, ?_⟩
                refine ⟨_, OpOk.pass (dg := 102) rfl rfl rfl rfl rfl, ?_⟩
                refine ⟨_, OpOk.pass (dg := 102) rfl rfl rfl rfl rfl, ?_⟩
                refine ⟨_, OpOk.pass (dg := 102) rfl rfl rfl rfl rfl, ?_⟩
                refine ⟨_, OpOk.pass (dg := 102) rfl rfl rfl rfl rfl, ?_⟩
                refine ⟨_, OpOk.r (R.pickT rfl rfl) rfl, ?_⟩
                refine ⟨_, OpOk.r (R.move rfl) rfl, ?_⟩
                refine ⟨_, OpOk.pass (dg := 112) rfl rfl rfl rfl rfl, ?_⟩
                refine ⟨_, OpOk.r (R.pickT rfl rfl) rfl, ?_⟩
                show St _ _ _ _ _
                refine St.weak [(2, _), (4, _), (7, _), (11, _), (12, _), (13, _), (18, _), (19, _), (20, _), (21, _), (114, _)] ⟨rfl, rfl, rfl, rfl, rfl, rfl, rfl, rfl, rfl, rfl, rfl, trivial⟩ ?_
                refine St.then_n ?_
                refine St.go hK29 ?_
                clear hK29
                refine St.condT rfl ?_
                refine St.region ?_
                refine St.r (R.assign rfl) rfl rfl ?_
                refine St.nil ?_
                refine St.weak [(2, _), (4, _), (7, _), (11, _), (12, _), (13, _), (18, _), (19, _), (20, _), (21, _)] ⟨rfl, rfl, rfl, rfl, rfl, rfl, rfl, rfl, rfl, rfl, trivial⟩ ?_
                refine St.in_n ?_
                refine St.then_n ?_
                refine St.go hK27 ?_
                clear hK27
                refine St.region ?_
                refine St.r (R.move rfl) rfl rfl ?_
                refine St.r (R.add rfl rfl (by omega) (by omega)) rfl rfl ?_
                refine St.r (R.assign rfl) rfl rfl ?_
                refine St.nil ?_
                refine St.weak [(2, _), (4, _), (7, _), (11, _), (12, _), (13, _), (18, _), (19, _), (20, _), (21, _)] ⟨rfl, rfl, rfl, rfl, rfl, rfl, rfl, rfl, rfl, rfl, trivial⟩ ?_
                refine St.then_n ?_
                refine St.round (k + 1, 3, pl, pv20) ⟨rfl, rfl, rfl, rfl, rfl, rfl, rfl, rfl, rfl, rfl, trivial⟩ ?_ ?_
                · try dsimp only
                  refine ⟨by omega, E, k4, o20, zz, (fun h => by omega), fun _ => ⟨rfl, ?_⟩⟩
                  have hg := hgood h86
                  rw [swapErr, if_neg (by omega), swapB_false hx (.inl (by omega))]; rfl
                · try dsimp only
                  omega
              ·
                by_cases h110 : (q.parts.length : Int) ≤ x
                ·
                  refine St.weak [(2, _), (4, _), (7, _), (11, _), (12, _), (13, _), (18, _), (19, _), (20, _), (21, _), (22, _)] ⟨rfl, rfl, rfl, rfl, rfl, rfl, rfl, rfl, rfl, rfl, rfl, trivial⟩ ?_
                  refine St.draw mixed rfl rfl rfl rfl ?_
                  replace E := Ext.trans E (Ext.drew _)
                  replace k4 := k4.ext (Ext.drew _)
                  replace o20 := o20.ext (Ext.drew _)
                  replace zz := Nat.le_trans zz (Chg.size (Ext.drew _))
                  refine ⟨_, OpOk.r (R.move rfl) rfl, ?_⟩
                  refine ⟨_, OpOk.r (R.move rfl) rfl, ?_⟩
                  refine ⟨_, OpOk.r (R.indexS k Tryz.underlying27 Tryz.sizeOf3 rfl rfl rfl (by omega)) rfl, ?_⟩
                  refine ⟨_, OpOk.r (R.load1 Tryz.isAgg3 rfl ((E.cells hxc).at 0 rfl)) rfl, ?_⟩
                  refine ⟨_, OpOk.r (Runs.lit (c := false) (R.lss rfl rfl) (decide_eq_false h101)) rfl, ?_⟩
                  refine ⟨_, OpOk.r (R.move rfl) rfl, ?_⟩
                  refine ⟨_, OpOk.take (dg := 102) (R.move rfl) rfl rfl rfl rfl, ?_⟩
                  refine ⟨_, OpOk.take (dg := 102) (R.move rfl) rfl rfl rfl rfl, ?_⟩
                  refine ⟨_, OpOk.take (dg := 102) (R.indexS k Tryz.underlying27 Tryz.sizeOf3 rfl rfl rfl (by omega)) rfl rfl rfl rfl, ?_⟩
                  refine ⟨_, OpOk.take (dg := 102) (R.load1 Tryz.isAgg3 rfl ((E.cells hxc).at 0 rfl)) rfl rfl rfl rfl, ?_⟩
                  refine ⟨_, OpOk.take (dg := 102) (R.fieldA Tryz.underlying26 rfl Tryz.sizeOf24 rfl rfl rfl) rfl rfl rfl rfl, ?_⟩
                  refine ⟨_, OpOk.take (dg := 102) (R.load1 Tryz.isAgg24 rfl (k4.cells.at 1 rfl)) rfl rfl rfl rfl, ?_⟩
                  refine ⟨_, OpOk.take (dg := 102) (R.lenSl Tryz.underlying24 rfl) rfl rfl rfl rfl, ?_⟩
                  refine ⟨_, OpOk.take (dg := 102) (Runs.lit (c := true) (R.geq rfl rfl) (decide_eq_true h110)) rfl rfl rfl rfl, ?_⟩
                  refine ⟨_, OpOk.r (R.pickF rfl rfl) rfl, ?_⟩
                  refine ⟨_, OpOk.r (R.move rfl) rfl, ?_⟩
                  refine ⟨_, OpOk.pass (dg := 112) rfl rfl rfl rfl rfl, ?_⟩
                  refine ⟨_, OpOk.r (R.pickT rfl rfl) rfl, ?_⟩
                  show St _ _ _ _ _
                  refine St.weak [(2, _), (4, _), (7, _), (11, _), (12, _), (13, _), (18, _), (19, _), (20, _), (21, _), (114, _)] ⟨rfl, rfl, rfl, rfl, rfl, rfl, rfl, rfl, rfl, rfl, rfl, trivial⟩ ?_
                  refine St.then_n ?_
                  refine St.go hK29 ?_
                  clear hK29
                  refine St.condT rfl ?_
                  refine St.region ?_
                  refine St.r (R.assign rfl) rfl rfl ?_
                  refine St.nil ?_
                  refine St.weak [(2, _), (4, _), (7, _), (11, _), (12, _), (13, _), (18, _), (19, _), (20, _), (21, _)] ⟨rfl, rfl, rfl, rfl, rfl, rfl, rfl, rfl, rfl, rfl, trivial⟩ ?_
                  refine St.in_n ?_
                  refine St.then_n ?_
                  refine St.go hK27 ?_
                  clear hK27
                  refine St.region ?_
                  refine St.r (R.move rfl) rfl rfl ?_
                  refine St.r (R.add rfl rfl (by omega) (by omega)) rfl rfl ?_
                  refine St.r (R.assign rfl) rfl rfl ?_
                  refine St.nil ?_
                  refine St.weak [(2, _), (4, _), (7, _), (11, _), (12, _), (13, _), (18, _), (19, _), (20, _), (21, _)] ⟨rfl, rfl, rfl, rfl, rfl, rfl, rfl, rfl, rfl, rfl, trivial⟩ ?_
                  refine St.then_n ?_
                  refine St.round (k + 1, 3, pl, pv20) ⟨rfl, rfl, rfl, rfl, rfl, rfl, rfl, rfl, rfl, rfl, trivial⟩ ?_ ?_
                  · try dsimp only
                    refine ⟨by omega, E, k4, o20, zz, (fun h => by omega), fun _ => ⟨rfl, ?_⟩⟩
                    have hg := hgood h86
                    rw [swapErr, if_neg (by omega), swapB_false hx (.inl (by omega))]; rfl
                  · try dsimp only
                    omega
                ·
                  refine St.weak [(2, _), (4, _), (7, _), (11, _), (12, _), (13, _), (18, _), (19, _), (20, _), (21, _), (22, _)] ⟨rfl, rfl, rfl, rfl, rfl, rfl, rfl, rfl, rfl, rfl, rfl, trivial⟩ ?_
                  refine St.draw mixed rfl rfl rfl rfl ?_
                  replace E := Ext.trans E (Ext.drew _)
                  replace k4 := k4.ext (Ext.drew _)
                  replace o20 := o20.ext (Ext.drew _)
                  replace zz := Nat.le_trans zz (Chg.size (Ext.drew _))
                  refine ⟨_, OpOk.r (R.move rfl) rfl, ?_⟩
                  refine ⟨_, OpOk.r (R.move rfl) rfl, ?_⟩
                  refine ⟨_, OpOk.r (R.indexS k Tryz.underlying27 Tryz.sizeOf3 rfl rfl rfl (by omega)) rfl, ?_⟩
                  refine ⟨_, OpOk.r (R.load1 Tryz.isAgg3 rfl ((E.cells hxc).at 0 rfl)) rfl, ?_⟩
                  refine ⟨_, OpOk.r (Runs.lit (c := false) (R.lss rfl rfl) (decide_eq_false h101)) rfl, ?_⟩
                  refine ⟨_, OpOk.r (R.move rfl) rfl, ?_⟩
                  refine ⟨_, OpOk.take (dg := 102) (R.move rfl) rfl rfl rfl rfl, ?_⟩
                  refine ⟨_, OpOk.take (dg := 102) (R.move rfl) rfl rfl rfl rfl, ?_⟩
                  refine ⟨_, OpOk.take (dg := 102) (R.indexS k Tryz.underlying27 Tryz.sizeOf3 rfl rfl rfl (by omega)) rfl rfl rfl rfl, ?_⟩
                  refine ⟨_, OpOk.take (dg := 102) (R.load1 Tryz.isAgg3 rfl ((E.cells hxc).at 0 rfl)) rfl rfl rfl rfl, ?_⟩
                  refine ⟨_, OpOk.take (dg := 102) (R.fieldA Tryz.underlying26 rfl Tryz.sizeOf24 rfl rfl rfl) rfl rfl rfl rfl, ?_⟩
                  refine ⟨_, OpOk.take (dg := 102) (R.load1 Tryz.isAgg24 rfl (k4.cells.at 1 rfl)) rfl rfl rfl rfl, ?_⟩
                  refine ⟨_, OpOk.take (dg := 102) (R.lenSl Tryz.underlying24 rfl) rfl rfl rfl rfl, ?_⟩
                  refine ⟨_, OpOk.take (dg := 102) (Runs.lit (c := false) (R.geq rfl rfl) (decide_eq_false h110)) rfl rfl rfl rfl, ?_⟩
                  refine ⟨_, OpOk.r (R.pickF rfl rfl) rfl, ?_⟩
                  refine ⟨_, OpOk.r (R.move rfl) rfl, ?_⟩
                  refine ⟨_, OpOk.take (dg := 112) (R.move rfl) rfl rfl rfl rfl, ?_⟩
                  refine ⟨_, OpOk.r (R.pickF rfl rfl) rfl, ?_⟩
                  show St _ _ _ _ _
                  refine St.weak [(2, _), (4, _), (7, _), (11, _), (12, _), (13, _), (18, _), (19, _), (20, _), (21, _), (114, _)] ⟨rfl, rfl, rfl, rfl, rfl, rfl, rfl, rfl, rfl, rfl, rfl, trivial⟩ ?_
                  refine St.then_n ?_
                  refine St.go hK29 ?_
                  clear hK29
                  refine St.cond rfl (fun h114 => ?_) (fun h114 => ?_)
                  ·
                    refine St.region ?_
                    refine St.r (R.assign rfl) rfl rfl ?_
                    refine St.nil ?_
                    refine St.weak [(2, _), (4, _), (7, _), (11, _), (12, _), (13, _), (18, _), (19, _), (20, _), (21, _)] ⟨rfl, rfl, rfl, rfl, rfl, rfl, rfl, rfl, rfl, rfl, trivial⟩ ?_
                    refine St.in_n ?_
                    refine St.then_n ?_
                    refine St.go hK27 ?_
                    clear hK27
                    refine St.region ?_
                    refine St.r (R.move rfl) rfl rfl ?_
                    refine St.r (R.add rfl rfl (by omega) (by omega)) rfl rfl ?_
                    refine St.r (R.assign rfl) rfl rfl ?_
                    refine St.nil ?_
                    refine St.weak [(2, _), (4, _), (7, _), (11, _), (12, _), (13, _), (18, _), (19, _), (20, _), (21, _)] ⟨rfl, rfl, rfl, rfl, rfl, rfl, rfl, rfl, rfl, rfl, trivial⟩ ?_
                    refine St.then_n ?_
                    refine St.round (k + 1, 3, pl, pv20) ⟨rfl, rfl, rfl, rfl, rfl, rfl, rfl, rfl, rfl, rfl, trivial⟩ ?_ ?_
                    · try dsimp only
                      refine ⟨by omega, E, k4, o20, zz, (fun h => by omega), fun _ => ⟨rfl, ?_⟩⟩
                      have hg := hgood h86
                      rw [swapErr, if_neg (by omega), swapB_false hx (.inr (any_mem.1 h114))]; rfl
                    · try dsimp only
                      omega
                  ·
                    obtain ⟨px, hpx0⟩ := get_of_lt (xs := q.parts) (k := x.toNat) (by omega)
                    have hpx := partAt_get hpx0
                    obtain ⟨pb, po, rfl, hpc⟩ := hpv.get' hpx0
                    refine St.weak [(2, _), (4, _), (7, _), (11, _), (12, _), (13, _), (18, _), (19, _), (20, _), (21, _)] ⟨rfl, rfl, rfl, rfl, rfl, rfl, rfl, rfl, rfl, rfl, trivial⟩ ?_
                    refine St.drawTL (S := fun k => pv20.ownBlock = some k) (eff := [9, 10]) mixed rfl rfl rfl rfl rfl rfl ?_
                    replace E := Ext.trans E (Ext.drew _)
                    replace k4 := k4.ext (Ext.drew _)
                    replace o20 := o20.ext (Ext.drew _)
                    replace zz := Nat.le_trans zz (Chg.size (Ext.drew _))
                    refine DrawT.quiet 0 rfl rfl (fun W eW => OpOk.r (R.move rfl) rfl) ?_
                    refine DrawT.quiet 1 rfl rfl (fun W eW => OpOk.r (R.fieldA Tryz.underlying26 rfl Tryz.sizeOf24 rfl rfl rfl) rfl) ?_
                    have hp117 := (k4.cells.at 1 rfl)
                    refine DrawT.pinL 2 rfl rfl Tryz.isAgg24 rfl hp117 ?_
                    refine DrawT.quiet 3 rfl rfl (fun W eW => OpOk.r (R.move rfl) rfl) ?_
                    refine DrawT.quiet 4 rfl rfl (fun W eW => OpOk.r (R.move rfl) rfl) ?_
                    refine DrawT.quiet 5 rfl rfl (fun W eW => OpOk.r (R.indexS k Tryz.underlying27 Tryz.sizeOf3 rfl rfl rfl (by omega)) rfl) ?_
                    have hp121 := ((E.cells hxc).at 0 rfl)
                    refine DrawT.pinL 6 rfl rfl Tryz.isAgg3 rfl hp121 ?_
                    refine DrawT.quiet 7 rfl rfl (fun W eW => OpOk.r (R.indexS x.toNat Tryz.underlying24 Tryz.sizeOf48 rfl rfl (by omega) (by omega)) rfl) ?_
                    have hp123 := (E.cells hpc)
                    refine DrawT.pinA 8 rfl rfl Tryz.isAgg48 Tryz.sizeOf48 rfl hp123 rfl ?_
                    refine DrawT.one (n := 9) [] rfl rfl rfl (by kernel_rfl) (OpC.plain (Eff.buildSl Tryz.underlying24 Tryz.sizeOf48 Tryz.zeroValue48 rfl rfl rfl rfl (by intro u hu; simp only [List.mem_cons, List.not_mem_nil, or_false] at hu; first | (subst hu; rfl) | (rcases hu with rfl | rfl <;> rfl) | (rcases hu with rfl | rfl | rfl <;> rfl))) rfl) ?_ ?_
                    · rintro _ _ ⟨_, _, _, _, e, _⟩
                      refine ⟨?_, trivial⟩
                      exact Chg.mono e (fun _ _ h => h.elim)
                    rintro _ w124 ⟨b124, rfl, hb124, hs124, e124, k124⟩
                    have qE124 := E.size
                    replace E := Ext.trans E e124
                    replace k4 := k4.ext e124
                    replace o20 := o20.ext e124
                    replace zz := Nat.le_trans zz (Chg.size e124)
                    refine DrawT.one (n := 10) [] rfl rfl rfl (by kernel_rfl) (OpC.plain (Eff.append (enc := encPat) (fun _ => rfl) one_pat Tryz.underlying24 info48 rfl rfl rfl rfl o20 (RSl.mk (enc := encPat) (xs := [px]) encPat_len k124.cells (fun i u hu => hu) (by simp) (by simp)) (by rw [List.length_singleton]; omega) (by rw [List.length_singleton]; omega) (by omega)) rfl) ?_ ?_
                    · rintro _ _ ⟨_, g, _⟩
                      refine ⟨?_, trivial⟩
                      exact Chg.mono g (fun _ _ h => h)
                    rintro v125 w125 ⟨a125, g125, at125⟩
                    replace E := Ext.then E g125 (by intro j hj hk; have := (o20.base hk).1; omega)
                    replace k4 := k4.chg g125 (by intro hk; have := (o20.base hk).1; omega)
                    replace zz := Nat.le_trans zz (Chg.size g125)
                    clear o20; have o20 := a125; clear a125
                    refine DrawT.fin rfl ?_
                    show St _ _ _ _ _
                    refine St.last rfl rfl ?_
                    refine St.weak [(2, _), (4, _), (7, _), (11, _), (12, _), (13, _), (18, _), (19, _), (20, _), (21, _)] ⟨rfl, rfl, rfl, rfl, rfl, rfl, rfl, rfl, rfl, rfl, trivial⟩ ?_
                    refine St.in_n ?_
                    refine St.then_n ?_
                    refine St.go hK27 ?_
                    clear hK27
                    refine St.region ?_
                    refine St.r (R.move rfl) rfl rfl ?_
                    refine St.r (R.add rfl rfl (by omega) (by omega)) rfl rfl ?_
                    refine St.r (R.assign rfl) rfl rfl ?_
                    refine St.nil ?_
                    refine St.weak [(2, _), (4, _), (7, _), (11, _), (12, _), (13, _), (18, _), (19, _), (20, _), (21, _)] ⟨rfl, rfl, rfl, rfl, rfl, rfl, rfl, rfl, rfl, rfl, trivial⟩ ?_
                    refine St.then_n ?_
                    refine St.round (k + 1, e7, pl ++ [px], v125) ⟨rfl, rfl, rfl, rfl, rfl, rfl, rfl, rfl, rfl, rfl, trivial⟩ ?_ ?_
                    · try dsimp only
                      refine ⟨by omega, E, k4, o20, zz, fun h => ?_, hbad⟩
                      obtain ⟨g1, g2, g3⟩ := hgood h
                      refine ⟨g1, nodup_snoc (P := fun x => 0 ≤ x ∧ x < (q.parts.length : Int)) hx g2 (by omega) (fun hm => by rw [any_mem.2 hm] at h114; cases h114), ?_⟩
                      rw [take_snoc hx, List.map_append, ← g3]; simp [hpx]
                    · try dsimp only
                      omega
            ·
              refine St.exit ?_
              refine St.then_x ?_
              refine St.then_x ?_
              refine St.in_x ?_
              refine St.then_n ?_
              refine St.meet hK15 (pl, pv20) ⟨rfl, rfl, rfl, rfl, rfl, rfl, rfl, (look_int rfl (by obtain ⟨h1, h2⟩ := hbad h86; rw [h1, h2]; rfl)), rfl, trivial⟩ ?_
              · try dsimp only
                exact ⟨E, k4, hb4, ⟨Z, o20⟩, fun h => by rw [(hbad h86).2] at h; cases h⟩
          ·
            have hfin : e7 = wrongI (swapErr q o) ∧ (swapErr q o = none → pl = o.map (partAt q.parts)) := by
              by_cases h0 : e7 = 0
              · obtain ⟨g1, g2, g3⟩ := hgood h0
                have hse : swapErr q o = none := by rw [swapErr, if_neg (by omega), swapB_true (fun i x hx => g2 i x (by have := lt_of_get hx; omega) hx)]; rfl
                exact ⟨by rw [h0, hse]; rfl, fun _ => by rw [g3, List.take_of_length_le (by omega)]⟩
              · obtain ⟨h1, h2⟩ := hbad h0
                exact ⟨by rw [h1, h2]; rfl, fun h => by rw [h2] at h; cases h⟩
            refine St.region ?_
            refine St.r (R.move rfl) rfl rfl ?_
            refine St.r (R.move rfl) rfl rfl ?_
            refine St.r (R.lenSl Tryz.underlying27 rfl) rfl rfl ?_
            refine St.r (Runs.lit (c := false) (R.lss rfl rfl) (decide_eq_false h82)) rfl rfl ?_
            refine St.r (R.move rfl) rfl rfl ?_
            refine St.pass (dg := 83) rfl rfl rfl rfl rfl ?_
            refine St.pass (dg := 83) rfl rfl rfl rfl rfl ?_
            refine St.r (R.pickF rfl rfl) rfl rfl ?_
            refine St.nil ?_
            refine St.weak [(2, _), (4, _), (7, _), (11, _), (12, _), (13, _), (18, _), (19, _), (20, _), (21, _), (86, _)] ⟨rfl, rfl, rfl, rfl, rfl, rfl, rfl, rfl, rfl, rfl, rfl, trivial⟩ ?_
            refine St.then_n ?_
            refine St.go hK26 ?_
            clear hK26
            refine St.condF rfl ?_
            refine St.exit ?_
            refine St.then_x ?_
            refine St.then_x ?_
            refine St.in_x ?_
            refine St.then_n ?_
            refine St.meet hK15 (pl, pv20) ⟨rfl, rfl, rfl, rfl, rfl, rfl, rfl, (look_int rfl hfin.1), rfl, trivial⟩ ?_
            · try dsimp only
              exact ⟨E, k4, hb4, ⟨Z, o20⟩, hfin.2⟩
        intro K14 hK14
        refine St.seq fun K30 hK30 => ?_
        refine St.region ?_
        refine St.r (R.move rfl) rfl rfl ?_
        refine St.r (R.lenSl Tryz.underlying27 rfl) rfl rfl ?_
        refine St.r (R.fieldA Tryz.underlying26 rfl Tryz.sizeOf24 rfl rfl rfl) rfl rfl ?_
        refine St.r (R.load1 Tryz.isAgg24 rfl (k4.cells.at 1 rfl)) rfl rfl ?_
        refine St.r (R.lenSl Tryz.underlying24 rfl) rfl rfl ?_
        refine St.r (R.neq rfl rfl) rfl rfl ?_
        refine St.nil ?_
        refine St.weak [(2, _), (4, _), (7, _), (11, _), (12, _), (13, _), (18, _), (19, _), (20, _), (78, _)] ⟨rfl, rfl, rfl, rfl, rfl, rfl, rfl, rfl, rfl, rfl, trivial⟩ ?_
        refine St.then_n ?_
        refine St.go hK30 ?_
        clear hK30
        refine St.condD rfl (fun h78 => ?_) (fun h78 => ?_)
        ·
          refine St.region ?_
          refine St.r (R.assign rfl) rfl rfl ?_
          refine St.nil ?_
          refine St.weak [(2, _), (4, _), (7, _), (11, _), (12, _), (13, _), (18, _), (19, _), (20, _)] ⟨rfl, rfl, rfl, rfl, rfl, rfl, rfl, rfl, rfl, trivial⟩ ?_
          refine St.then_n ?_
          refine St.meet hK14 () ⟨rfl, rfl, rfl, rfl, rfl, rfl, rfl, (look_int rfl (by rw [if_pos h78])), rfl, trivial⟩ ?_
          · exact ⟨E, k4, hb4⟩
        ·
          refine St.skip ?_
          refine St.then_n ?_
          refine St.meet hK14 () ⟨rfl, rfl, rfl, rfl, rfl, rfl, rfl, (look_int rfl (by rw [if_neg h78])), rfl, trivial⟩ ?_
          · exact ⟨E, k4, hb4⟩
      intro K9 hK9
      refine St.seq fun K31 hK31 => ?_
      refine St.region ?_
      refine St.r (R.move rfl) rfl rfl ?_
      refine St.r (R.eql rfl rfl) rfl rfl ?_
      refine St.nil ?_
      refine St.weak [(0, _), (2, _), (4, _), (7, _), (11, _), (12, _), (13, _), (51, _)] ⟨rfl, rfl, rfl, rfl, rfl, rfl, rfl, rfl, trivial⟩ ?_
      refine St.then_n ?_
      refine St.go hK31 ?_
      clear hK31
      refine St.condD rfl (fun h51 => ?_) (fun h51 => ?_)
      ·
        have hP := planErr_0.1 h51
        obtain ⟨n1, n2, n3, n4⟩ := planErr_ok hP
        have hall := allErr_plan hP
        refine St.seq fun K32 hK32 => ?_
        refine St.region ?_
        refine St.r (R.move rfl) rfl rfl ?_
        refine St.r (R.loadA Tryz.isAgg26 Tryz.sizeOf26 rfl k4.cells rfl) rfl rfl ?_
        refine St.call rfl rfl ent13 (tAnswers_ret _ (hv.ext (REnc.firm _) E) (RQuery.firm _ _ _ _ E hq0) n1 n2 n3 n4) rfl ?_
        rintro r55 w55 ⟨va, ra, tvs, ths, trows, rfl, -, -, -, -, e55⟩
        replace E := Ext.trans E e55
        replace k4 := k4.ext e55
        refine St.r (R.move rfl) rfl rfl ?_
        refine St.r (R.extract rfl rfl) rfl rfl ?_
        refine St.r (R.extract rfl rfl) rfl rfl ?_
        refine St.r (R.extract rfl rfl) rfl rfl ?_
        refine St.r (R.extract rfl rfl) rfl rfl ?_
        refine St.r (R.assign rfl) rfl rfl ?_
        refine St.r (R.assign rfl) rfl rfl ?_
        refine St.r (R.assign rfl) rfl rfl ?_
        refine St.r (R.assign rfl) rfl rfl ?_
        refine St.nil ?_
        refine St.weak [(0, _), (2, _), (4, _), (11, _), (12, _), (16, _), (17, _)] ⟨rfl, rfl, rfl, rfl, rfl, rfl, rfl, trivial⟩ ?_
        refine St.then_n ?_
        refine St.go hK32 ?_
        clear hK32
        refine St.seq fun K33 hK33 => ?_
        refine St.region ?_
        refine St.r (R.move rfl) rfl rfl ?_
        refine St.r (R.assign rfl) rfl rfl ?_
        refine St.nil ?_
        refine St.weak [(0, _), (2, _), (4, _), (11, _), (12, _), (13, _), (17, _)] ⟨rfl, rfl, rfl, rfl, rfl, rfl, rfl, trivial⟩ ?_
        refine St.then_n ?_
        refine St.go hK33 ?_
        clear hK33
        refine St.seq fun K34 hK34 => ?_
        refine St.region ?_
        refine St.r (R.move rfl) rfl rfl ?_
        refine St.r (R.assign rfl) rfl rfl ?_
        refine St.nil ?_
        refine St.weak [(0, _), (2, _), (4, _), (7, _), (11, _), (12, _), (13, _)] ⟨rfl, rfl, rfl, rfl, rfl, rfl, rfl, trivial⟩ ?_
        refine St.then_n ?_
        refine St.go hK34 ?_
        clear hK34
        refine St.seq fun K35 hK35 => ?_
        refine St.region ?_
        refine St.r (R.move rfl) rfl rfl ?_
        refine St.r (R.neq rfl rfl) rfl rfl ?_
        refine St.nil ?_
        refine St.weak [(0, _), (2, _), (4, _), (7, _), (11, _), (12, _), (13, _), (63, _)] ⟨rfl, rfl, rfl, rfl, rfl, rfl, rfl, rfl, trivial⟩ ?_
        refine St.then_n ?_
        refine St.go hK35 ?_
        clear hK35
        refine St.condD rfl (fun h63 => ?_) (fun h63 => ?_)
        ·
          have hnf : ¬ fullQ l q := fun hf => by rw [if_pos hf] at h63; exact h63 rfl
          rw [if_neg hnf] at hall
          refine St.region ?_
          refine St.r (R.assign rfl) rfl rfl ?_
          refine St.nil ?_
          refine St.weak [(0, _), (2, _), (4, _), (7, _), (11, _), (12, _), (13, _)] ⟨rfl, rfl, rfl, rfl, rfl, rfl, rfl, trivial⟩ ?_
          refine St.then_n ?_
          refine St.meet hK9 () ⟨rfl, rfl, rfl, rfl, rfl, (look_int rfl (by rw [hall, if_neg hnf]; rfl)), (look_int rfl (by rw [hall]; rfl)), trivial⟩ ?_
          · exact ⟨E, k4, hb4⟩
        ·
          have hf : fullQ l q := Decidable.byContradiction fun hn => by rw [if_neg hn] at h63; exact h63 (by decide)
          rw [if_pos hf] at hall
          refine St.skip ?_
          refine St.then_n ?_
          refine St.meet hK9 () ⟨rfl, rfl, rfl, rfl, rfl, (look_int rfl (by rw [hall, if_pos hf]; rfl)), (look_int rfl (by rw [hall, if_pos hf]; rfl)), trivial⟩ ?_
          · exact ⟨E, k4, hb4⟩
      ·
        obtain ⟨er, her⟩ : ∃ e, planErr l q = some e := by
          cases hc : planErr l q with
          | none => exact absurd (planErr_0.2 hc) h51
          | some e => exact ⟨e, rfl⟩
        have hall := allErr_bad her
        refine St.skip ?_
        refine St.then_n ?_
        refine St.meet hK9 () ⟨rfl, rfl, rfl, rfl, rfl, (look_int rfl (by rw [hall, her])), (look_int rfl (by rw [hall]; rfl)), trivial⟩ ?_
        · exact ⟨E, k4, hb4⟩
    intro K4 hK4
    refine St.seq fun K36 hK36 => ?_
    refine St.region ?_
    refine St.r (R.move rfl) rfl rfl ?_
    refine St.r (R.eql rfl rfl) rfl rfl ?_
    refine St.nil ?_
    refine St.weak [(0, _), (2, _), (4, _), (7, _), (8, _), (34, _)] ⟨rfl, rfl, rfl, rfl, rfl, rfl, trivial⟩ ?_
    refine St.then_n ?_
    refine St.go hK36 ?_
    clear hK36
    refine St.condD rfl (fun h34 => ?_) (fun h34 => ?_)
    ·
      have hP := planErr_0.1 h34
      obtain ⟨n1, n2, n3, n4⟩ := planErr_ok hP
      refine St.region ?_
      refine St.r (R.move rfl) rfl rfl ?_
      refine St.r (R.loadA Tryz.isAgg26 Tryz.sizeOf26 rfl k4.cells rfl) rfl rfl ?_
      refine St.call rfl rfl ent9 (tOrder_ret _ (hv.ext (REnc.firm _) E) (RQuery.firm _ _ _ _ E hq0) n1 n2 n3) rfl ?_
      rintro r37 w37 ⟨r8, e37⟩
      replace E := Ext.trans E e37
      replace k4 := k4.ext e37
      refine St.r (R.assign rfl) rfl rfl ?_
      refine St.nil ?_
      refine St.weak [(0, _), (2, _), (4, _), (7, _), (8, _)] ⟨rfl, rfl, rfl, rfl, rfl, trivial⟩ ?_
      refine St.then_n ?_
      refine St.meet hK4 _ ⟨rfl, rfl, rfl, rfl, rfl, trivial⟩ ?_
      · exact ⟨E, k4, hb4, by rw [hP]; exact r8⟩
    ·
      obtain ⟨er, her⟩ : ∃ e, planErr l q = some e := by
        cases hc : planErr l q with
        | none => exact absurd (planErr_0.2 hc) h34
        | some e => exact ⟨e, rfl⟩
      refine St.skip ?_
      refine St.then_n ?_
      refine St.meet hK4 (.slice none 0 0) ⟨rfl, rfl, rfl, rfl, rfl, trivial⟩ ?_
      · exact ⟨E, k4, hb4, by rw [her]; exact RSl.nil _ _ _⟩
  intro K2 hK2
  refine St.seq fun K37 hK37 => ?_
  refine St.region ?_
  refine St.r (R.move rfl) rfl rfl ?_
  refine St.r (R.eql rfl rfl) rfl rfl ?_
  refine St.nil ?_
  refine St.weak [(0, _), (2, _), (4, _), (7, _), (30, _)] ⟨rfl, rfl, rfl, rfl, rfl, trivial⟩ ?_
  refine St.then_n ?_
  refine St.go hK37 ?_
  clear hK37
  refine St.condD rfl (fun h30 => ?_) (fun h30 => ?_)
  ·
    have hS := setErr_0.1 h30
    refine St.region ?_
    refine St.r (R.loadA Tryz.isAgg26 Tryz.sizeOf26 rfl k4.cells rfl) rfl rfl ?_
    refine St.call rfl rfl ent8 (tCheckQ_ret _ (RQuery.firm _ _ _ _ E hq0)) rfl ?_
    rintro r32 w32 ⟨rfl, e32⟩
    replace E := Ext.trans E e32
    replace k4 := k4.ext e32
    refine St.r (R.assign rfl) rfl rfl ?_
    refine St.nil ?_
    refine St.weak [(0, _), (2, _), (4, _), (7, _)] ⟨rfl, rfl, rfl, rfl, trivial⟩ ?_
    refine St.then_n ?_
    refine St.meet hK2 () ⟨rfl, rfl, rfl, (look_int rfl (wrongI_plan0 hS)), trivial⟩ ?_
    · exact ⟨E, k4, by omega⟩
  ·
    obtain ⟨er, her⟩ : ∃ e, setErr l = some e := by
      cases hc : setErr l with
      | none => exact absurd (setErr_0.2 hc) h30
      | some e => exact ⟨e, rfl⟩
    refine St.skip ?_
    refine St.then_n ?_
    refine St.meet hK2 () ⟨rfl, rfl, rfl, (look_int rfl (wrongI_plan1 her)), trivial⟩ ?_
    · exact ⟨E, k4, by omega⟩

end Go.Proofs.YtjgcmpondbocfaaGreatDoor
