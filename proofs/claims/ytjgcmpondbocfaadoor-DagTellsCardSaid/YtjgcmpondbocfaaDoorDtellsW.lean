/- What the law DagTells comes to: walked against plain Lean. Under the reading of its arguments; the variable errors.errorType holds the handle of the type error. -/
import Derived.Test.YtjgcmpondbocfaaDoorProg
import Derived.Test.YtjgcmpondbocfaaDoorDagRefW
import Derived.Test.YtjgcmpondbocfaaDoorErrs
namespace Go.Proofs.YtjgcmpondbocfaaDoor
open Go.RowKit 
theorem ent6 : Ent Tryd.prog 6 := Ent.of Tryd.func6 (by kernel_rfl) rfl
theorem ent8 : Ent Tryd.prog 8 := Ent.of Tryd.func8 (by kernel_rfl) rfl
theorem ent11 : Ent Tryd.prog 11 := Ent.of Tryd.func11 (by kernel_rfl) rfl
theorem ent12 : Ent Tryd.prog 12 := Ent.of Tryd.func12 (by kernel_rfl) rfl
theorem ent13 : Ent Tryd.prog 13 := Ent.of Tryd.func13 (by kernel_rfl) rfl
theorem ent15 : Ent Tryd.prog 15 := Ent.of Tryd.func15 (by kernel_rfl) rfl
theorem ent16 : Ent Tryd.prog 16 := Ent.of Tryd.func16 (by kernel_rfl) rfl
theorem DagTells_ret {ls : List Commit} {v : Value} {a b : Int} (w0 : World) (hv : RCommits w0 v ls) (hg : ErrType w0) :
    Ret Tryd.prog 3 [v, .int .i64 a, .int .i64 b] w0 fun r w' => r = .bool true ∧ Ext w0 w' := by
  obtain ⟨A, c, rfl, hc1, hc2⟩ := hv.form
  have E : Ext w0 w0 := Ext.refl w0
  refine St.enter (N := 176) Tryd.func3 rfl Tryd.ntmps3 rfl ?_
  refine St.seq fun K0 hK0 => ?_
  refine St.region ?_
  refine St.r (R.assign rfl) rfl rfl ?_
  refine St.nil ?_
  refine St.weak [(0, _), (1, _), (2, _)] ⟨rfl, rfl, rfl, trivial⟩ ?_
  refine St.then_n ?_
  refine St.go hK0 ?_
  clear hK0
  refine St.seq fun K1 hK1 => ?_
  refine St.region ?_
  refine St.r (R.move rfl) rfl rfl ?_
  refine St.call rfl rfl ent6 (rCommits_ret _ hv) rfl ?_
  rintro r31 w31 ⟨rfl, e31⟩
  replace E := Ext.trans E e31
  refine St.r (R.move rfl) rfl rfl ?_
  refine St.r (R.extract rfl rfl) rfl rfl ?_
  refine St.r (R.extract rfl rfl) rfl rfl ?_
  refine St.r (R.assign rfl) rfl rfl ?_
  refine St.r (R.assign rfl) rfl rfl ?_
  refine St.nil ?_
  refine St.weak [(0, _), (1, _), (2, _), (7, _), (8, _)] ⟨rfl, rfl, rfl, rfl, rfl, trivial⟩ ?_
  refine St.then_n ?_
  refine St.go hK1 ?_
  clear hK1
  refine St.seq fun K2 hK2 => ?_
  refine St.region ?_
  refine St.r (R.move rfl) rfl rfl ?_
  refine St.call rfl rfl ent7 (Check_ret _ (hv.ext RCommit.firm E)) rfl ?_
  rintro r36 w36 ⟨rfl, e36⟩
  replace E := Ext.trans E e36
  refine St.r (R.move rfl) rfl rfl ?_
  refine St.r (R.extract rfl rfl) rfl rfl ?_
  refine St.r (R.extract rfl rfl) rfl rfl ?_
  refine St.r (R.assign rfl) rfl rfl ?_
  refine St.r (R.assign rfl) rfl rfl ?_
  refine St.nil ?_
  refine St.weak [(0, _), (1, _), (2, _), (7, _), (8, _), (9, _), (10, _)] ⟨rfl, rfl, rfl, rfl, rfl, rfl, rfl, trivial⟩ ?_
  refine St.then_n ?_
  refine St.go hK2 ?_
  clear hK2
  refine St.seq fun K3 hK3 => ?_
  refine St.region ?_
  refine St.r (R.move rfl) rfl rfl ?_
  refine St.r (R.move rfl) rfl rfl ?_
  refine St.call rfl rfl ent8 (Error_ret _ (hg.ext E)) rfl ?_
  rintro r41 w41 ⟨rfl, e41⟩
  replace E := Ext.trans E e41
  refine St.r (R.assign rfl) rfl rfl ?_
  refine St.nil ?_
  refine St.weak [(0, _), (1, _), (2, _), (7, _), (8, _), (9, _), (11, _)] ⟨rfl, rfl, rfl, rfl, rfl, rfl, rfl, trivial⟩ ?_
  refine St.then_n ?_
  refine St.go hK3 ?_
  clear hK3
  refine St.seq fun K4 hK4 => ?_
  refine St.region ?_
  have hone : decide ((checkErr ls).2.getD 0 = (checkErr ls).2.getD 0) = true := decide_eq_true rfl
  refine St.r (R.move rfl) rfl rfl ?_
  refine St.r (R.assign rfl) rfl rfl ?_
  refine St.nil ?_
  refine St.weak [(0, _), (1, _), (2, _), (7, _), (9, _), (11, _), (12, _)] ⟨rfl, rfl, rfl, rfl, rfl, rfl, rfl, trivial⟩ ?_
  refine St.then_n ?_
  refine St.go hK4 ?_
  clear hK4
  refine St.seqJ (fun (x : Unit) => match x with | () => [(0, .slice A ls.length c), (1, .int .i64 a), (2, .int .i64 b), (7, .int .i64 (checkErr ls).1), (9, .int .i64 (checkErr ls).1), (11, .bool true), (12, .int .i64 ((readyErr ls [a]).getD 0))])
      (fun (x : Unit) w => match x with | () => Ext w0 w) ?_ ?_
  · rintro _ w E
    show St _ _ [(0, .slice A ls.length c), (1, .int .i64 a), (2, .int .i64 b), (7, .int .i64 (checkErr ls).1), (9, .int .i64 (checkErr ls).1), (11, .bool true), (12, .int .i64 ((readyErr ls [a]).getD 0))] _ _
    refine St.seq fun K6 hK6 => ?_
    refine St.region ?_
    refine St.r (R.assign rfl) rfl rfl ?_
    refine St.r (R.assign rfl) rfl rfl ?_
    refine St.nil ?_
    refine St.weak [(0, _), (1, _), (2, _), (7, _), (9, _), (11, _), (12, _), (13, _), (14, _)] ⟨rfl, rfl, rfl, rfl, rfl, rfl, rfl, rfl, rfl, trivial⟩ ?_
    refine St.then_n ?_
    refine St.go hK6 ?_
    clear hK6
    refine St.seqJ (fun (x : Value × Value) => match x with | (v13, v14) => [(0, .slice A ls.length c), (1, .int .i64 a), (2, .int .i64 b), (7, .int .i64 (checkErr ls).1), (9, .int .i64 (checkErr ls).1), (11, .bool true), (12, .int .i64 ((readyErr ls [a]).getD 0)), (13, v13), (14, v14)])
        (fun (x : Value × Value) w => match x with | (v13, v14) => Ext w0 w ∧ RInts w v13 (ancList ls a) ∧ RInts w v14 (ancList ls a).reverse) ?_ ?_
    · rintro ⟨v13, v14⟩ w ⟨E, r13, r14⟩
      show St _ _ [(0, .slice A ls.length c), (1, .int .i64 a), (2, .int .i64 b), (7, .int .i64 (checkErr ls).1), (9, .int .i64 (checkErr ls).1), (11, .bool true), (12, .int .i64 ((readyErr ls [a]).getD 0)), (13, v13), (14, v14)] _ _
      refine St.seq fun K8 hK8 => ?_
      refine St.region ?_
      refine St.r (R.move rfl) rfl rfl ?_
      refine St.r (R.move rfl) rfl rfl ?_
      refine St.call rfl rfl ent10 (Ancestors_ret _ (hv.ext RCommit.firm E)) rfl ?_
      rintro r77 w77 ⟨v16, rfl, o16, e77⟩
      replace E := Ext.trans E e77
      replace r13 := r13.ext (REnc.firm _) e77
      replace r14 := r14.ext (REnc.firm _) e77
      have r16 := o16.reads encInt_len
      clear o16
      refine St.r (R.move rfl) rfl rfl ?_
      refine St.r (R.extract rfl rfl) rfl rfl ?_
      refine St.r (R.extract rfl rfl) rfl rfl ?_
      refine St.r (R.assign rfl) rfl rfl ?_
      refine St.r (R.assign rfl) rfl rfl ?_
      refine St.nil ?_
      refine St.weak [(0, _), (1, _), (2, _), (7, _), (9, _), (10, _), (11, _), (12, _), (13, _), (14, _), (16, _)] ⟨rfl, rfl, rfl, rfl, rfl, rfl, rfl, rfl, rfl, rfl, rfl, trivial⟩ ?_
      refine St.then_n ?_
      refine St.go hK8 ?_
      clear hK8
      refine St.seq fun K9 hK9 => ?_
      refine St.region ?_
      refine St.r (R.move rfl) rfl rfl ?_
      refine St.r (R.move rfl) rfl rfl ?_
      refine St.call rfl rfl ent8 (Error_ret _ (hg.ext E)) rfl ?_
      rintro r82 w82 ⟨rfl, e82⟩
      replace E := Ext.trans E e82
      replace r13 := r13.ext (REnc.firm _) e82
      replace r14 := r14.ext (REnc.firm _) e82
      replace r16 := r16.ext (REnc.firm _) e82
      refine St.r (R.assign rfl) rfl rfl ?_
      refine St.nil ?_
      refine St.weak [(0, _), (1, _), (2, _), (7, _), (9, _), (11, _), (12, _), (13, _), (14, _), (16, _), (17, _)] ⟨rfl, rfl, rfl, rfl, rfl, rfl, rfl, rfl, rfl, rfl, rfl, trivial⟩ ?_
      refine St.then_n ?_
      refine St.go hK9 ?_
      clear hK9
      refine St.seq fun K10 hK10 => ?_
      refine St.region ?_
      refine St.r (R.move rfl) rfl rfl ?_
      refine St.r (R.move rfl) rfl rfl ?_
      refine St.call rfl rfl ent11 (Log_ret _ (hv.ext RCommit.firm E)) rfl ?_
      rintro r86 w86 ⟨v18, rfl, r18, e86⟩
      replace E := Ext.trans E e86
      replace r13 := r13.ext (REnc.firm _) e86
      replace r14 := r14.ext (REnc.firm _) e86
      replace r16 := r16.ext (REnc.firm _) e86
      refine St.r (R.move rfl) rfl rfl ?_
      refine St.r (R.extract rfl rfl) rfl rfl ?_
      refine St.r (R.extract rfl rfl) rfl rfl ?_
      refine St.r (R.assign rfl) rfl rfl ?_
      refine St.r (R.assign rfl) rfl rfl ?_
      refine St.nil ?_
      refine St.weak [(0, _), (1, _), (2, _), (7, _), (9, _), (10, _), (11, _), (12, _), (13, _), (14, _), (16, _), (17, _), (18, _)] ⟨rfl, rfl, rfl, rfl, rfl, rfl, rfl, rfl, rfl, rfl, rfl, rfl, rfl, trivial⟩ ?_
      refine St.then_n ?_
      refine St.go hK10 ?_
      clear hK10
      refine St.seq fun K11 hK11 => ?_
      refine St.region ?_
      refine St.r (R.move rfl) rfl rfl ?_
      refine St.r (R.move rfl) rfl rfl ?_
      refine St.call rfl rfl ent8 (Error_ret _ (hg.ext E)) rfl ?_
      rintro r91 w91 ⟨rfl, e91⟩
      replace E := Ext.trans E e91
      replace r13 := r13.ext (REnc.firm _) e91
      replace r14 := r14.ext (REnc.firm _) e91
      replace r16 := r16.ext (REnc.firm _) e91
      replace r18 := r18.ext (REnc.firm _) e91
      refine St.r (R.assign rfl) rfl rfl ?_
      refine St.nil ?_
      refine St.weak [(0, _), (1, _), (2, _), (7, _), (9, _), (11, _), (12, _), (13, _), (14, _), (16, _), (17, _), (18, _), (19, _)] ⟨rfl, rfl, rfl, rfl, rfl, rfl, rfl, rfl, rfl, rfl, rfl, rfl, rfl, trivial⟩ ?_
      refine St.then_n ?_
      refine St.go hK11 ?_
      clear hK11
      refine St.seq fun K12 hK12 => ?_
      refine St.region ?_
      refine St.r (R.move rfl) rfl rfl ?_
      refine St.r (R.move rfl) rfl rfl ?_
      refine St.call rfl rfl ent12 (Ints_ret _ r16 r13) rfl ?_
      rintro r94 w94 ⟨rfl, e94⟩
      replace E := Ext.trans E e94
      replace r13 := r13.ext (REnc.firm _) e94
      replace r14 := r14.ext (REnc.firm _) e94
      replace r16 := r16.ext (REnc.firm _) e94
      replace r18 := r18.ext (REnc.firm _) e94
      refine St.r (R.assign rfl) rfl rfl ?_
      refine St.nil ?_
      refine St.weak [(0, _), (1, _), (2, _), (7, _), (9, _), (11, _), (12, _), (14, _), (17, _), (18, _), (19, _), (20, _)] ⟨rfl, rfl, rfl, rfl, rfl, rfl, rfl, rfl, rfl, rfl, rfl, rfl, trivial⟩ ?_
      refine St.then_n ?_
      refine St.go hK12 ?_
      clear hK12
      refine St.seq fun K13 hK13 => ?_
      refine St.region ?_
      refine St.r (R.move rfl) rfl rfl ?_
      refine St.r (R.move rfl) rfl rfl ?_
      refine St.call rfl rfl ent12 (Ints_ret _ r18 r14) rfl ?_
      rintro r97 w97 ⟨rfl, e97⟩
      replace E := Ext.trans E e97
      replace r13 := r13.ext (REnc.firm _) e97
      replace r14 := r14.ext (REnc.firm _) e97
      replace r16 := r16.ext (REnc.firm _) e97
      replace r18 := r18.ext (REnc.firm _) e97
      refine St.r (R.assign rfl) rfl rfl ?_
      refine St.nil ?_
      refine St.weak [(0, _), (1, _), (2, _), (7, _), (9, _), (11, _), (12, _), (17, _), (19, _), (20, _), (21, _)] ⟨rfl, rfl, rfl, rfl, rfl, rfl, rfl, rfl, rfl, rfl, rfl, trivial⟩ ?_
      refine St.then_n ?_
      refine St.go hK13 ?_
      clear hK13
      refine St.seqJ (fun (x : Unit) => match x with | () => [(0, .slice A ls.length c), (1, .int .i64 a), (2, .int .i64 b), (7, .int .i64 (checkErr ls).1), (9, .int .i64 (checkErr ls).1), (11, .bool true), (17, .bool true), (19, .bool true), (20, .bool true), (21, .bool true), (12, .int .i64 ((readyErr ls [a, b]).getD 0))])
          (fun (x : Unit) w => match x with | () => Ext w0 w) ?_ ?_
      · rintro _ w E
        show St _ _ [(0, .slice A ls.length c), (1, .int .i64 a), (2, .int .i64 b), (7, .int .i64 (checkErr ls).1), (9, .int .i64 (checkErr ls).1), (11, .bool true), (17, .bool true), (19, .bool true), (20, .bool true), (21, .bool true), (12, .int .i64 ((readyErr ls [a, b]).getD 0))] _ _
        refine St.seq fun K15 hK15 => ?_
        refine St.region ?_
        refine St.r (R.assign rfl) rfl rfl ?_
        refine St.nil ?_
        refine St.weak [(0, _), (1, _), (2, _), (7, _), (9, _), (11, _), (12, _), (17, _), (19, _), (20, _), (21, _), (22, _)] ⟨rfl, rfl, rfl, rfl, rfl, rfl, rfl, rfl, rfl, rfl, rfl, rfl, trivial⟩ ?_
        refine St.then_n ?_
        refine St.go hK15 ?_
        clear hK15
        refine St.seq fun K16 hK16 => ?_
        refine St.region ?_
        refine St.r (R.assign rfl) rfl rfl ?_
        refine St.nil ?_
        refine St.weak [(0, _), (1, _), (2, _), (7, _), (9, _), (11, _), (12, _), (17, _), (19, _), (20, _), (21, _), (22, _), (23, _)] ⟨rfl, rfl, rfl, rfl, rfl, rfl, rfl, rfl, rfl, rfl, rfl, rfl, rfl, trivial⟩ ?_
        refine St.then_n ?_
        refine St.go hK16 ?_
        clear hK16
        refine St.seqJ (fun (v22 : Value) => [(0, .slice A ls.length c), (1, .int .i64 a), (2, .int .i64 b), (7, .int .i64 (checkErr ls).1), (9, .int .i64 (checkErr ls).1), (11, .bool true), (17, .bool true), (19, .bool true), (20, .bool true), (21, .bool true), (12, .int .i64 ((readyErr ls [a, b]).getD 0)), (22, v22), (23, .bool (isB ls a b))])
            (fun (v22 : Value) w => Ext w0 w ∧ RInts w v22 (baseList ls a b)) ?_ ?_
        · rintro v22 w ⟨E, r22⟩
          show St _ _ [(0, .slice A ls.length c), (1, .int .i64 a), (2, .int .i64 b), (7, .int .i64 (checkErr ls).1), (9, .int .i64 (checkErr ls).1), (11, .bool true), (17, .bool true), (19, .bool true), (20, .bool true), (21, .bool true), (12, .int .i64 ((readyErr ls [a, b]).getD 0)), (22, v22), (23, .bool (isB ls a b))] _ _
          refine St.seq fun K18 hK18 => ?_
          refine St.region ?_
          refine St.r (R.move rfl) rfl rfl ?_
          refine St.r (R.move rfl) rfl rfl ?_
          refine St.r (R.move rfl) rfl rfl ?_
          refine St.call rfl rfl ent15 (Bases_ret _ (hv.ext RCommit.firm E)) rfl ?_
          rintro r125 w125 ⟨v24, rfl, r24, e125⟩
          replace E := Ext.trans E e125
          replace r22 := r22.ext (REnc.firm _) e125
          refine St.r (R.move rfl) rfl rfl ?_
          refine St.r (R.extract rfl rfl) rfl rfl ?_
          refine St.r (R.extract rfl rfl) rfl rfl ?_
          refine St.r (R.assign rfl) rfl rfl ?_
          refine St.r (R.assign rfl) rfl rfl ?_
          refine St.nil ?_
          refine St.weak [(0, _), (1, _), (2, _), (7, _), (9, _), (10, _), (11, _), (12, _), (17, _), (19, _), (20, _), (21, _), (22, _), (23, _), (24, _)] ⟨rfl, rfl, rfl, rfl, rfl, rfl, rfl, rfl, rfl, rfl, rfl, rfl, rfl, rfl, rfl, trivial⟩ ?_
          refine St.then_n ?_
          refine St.go hK18 ?_
          clear hK18
          refine St.seq fun K19 hK19 => ?_
          refine St.region ?_
          refine St.r (R.move rfl) rfl rfl ?_
          refine St.r (R.move rfl) rfl rfl ?_
          refine St.call rfl rfl ent8 (Error_ret _ (hg.ext E)) rfl ?_
          rintro r130 w130 ⟨rfl, e130⟩
          replace E := Ext.trans E e130
          replace r22 := r22.ext (REnc.firm _) e130
          replace r24 := r24.ext (REnc.firm _) e130
          refine St.r (R.assign rfl) rfl rfl ?_
          refine St.nil ?_
          refine St.weak [(0, _), (1, _), (2, _), (7, _), (9, _), (11, _), (12, _), (17, _), (19, _), (20, _), (21, _), (22, _), (23, _), (24, _), (25, _)] ⟨rfl, rfl, rfl, rfl, rfl, rfl, rfl, rfl, rfl, rfl, rfl, rfl, rfl, rfl, rfl, trivial⟩ ?_
          refine St.then_n ?_
          refine St.go hK19 ?_
          clear hK19
          refine St.seq fun K20 hK20 => ?_
          refine St.region ?_
          refine St.r (R.move rfl) rfl rfl ?_
          refine St.r (R.move rfl) rfl rfl ?_
          refine St.call rfl rfl ent12 (Ints_ret _ r24 r22) rfl ?_
          rintro r133 w133 ⟨rfl, e133⟩
          replace E := Ext.trans E e133
          replace r22 := r22.ext (REnc.firm _) e133
          replace r24 := r24.ext (REnc.firm _) e133
          refine St.r (R.assign rfl) rfl rfl ?_
          refine St.nil ?_
          refine St.weak [(0, _), (1, _), (2, _), (7, _), (9, _), (11, _), (12, _), (17, _), (19, _), (20, _), (21, _), (23, _), (25, _), (26, _)] ⟨rfl, rfl, rfl, rfl, rfl, rfl, rfl, rfl, rfl, rfl, rfl, rfl, rfl, rfl, trivial⟩ ?_
          refine St.then_n ?_
          refine St.go hK20 ?_
          clear hK20
          refine St.seq fun K21 hK21 => ?_
          refine St.region ?_
          refine St.r (R.move rfl) rfl rfl ?_
          refine St.r (R.move rfl) rfl rfl ?_
          refine St.r (R.move rfl) rfl rfl ?_
          refine St.call rfl rfl ent16 (Is_ret _ (hv.ext RCommit.firm E)) rfl ?_
          rintro r138 w138 ⟨rfl, e138⟩
          replace E := Ext.trans E e138
          replace r22 := r22.ext (REnc.firm _) e138
          replace r24 := r24.ext (REnc.firm _) e138
          refine St.r (R.move rfl) rfl rfl ?_
          refine St.r (R.extract rfl rfl) rfl rfl ?_
          refine St.r (R.extract rfl rfl) rfl rfl ?_
          refine St.r (R.assign rfl) rfl rfl ?_
          refine St.r (R.assign rfl) rfl rfl ?_
          refine St.nil ?_
          refine St.weak [(7, _), (9, _), (10, _), (11, _), (12, _), (17, _), (19, _), (20, _), (21, _), (23, _), (25, _), (26, _), (27, _)] ⟨rfl, rfl, rfl, rfl, rfl, rfl, rfl, rfl, rfl, rfl, rfl, rfl, rfl, trivial⟩ ?_
          refine St.then_n ?_
          refine St.go hK21 ?_
          clear hK21
          refine St.seq fun K22 hK22 => ?_
          refine St.region ?_
          refine St.r (R.move rfl) rfl rfl ?_
          refine St.r (R.move rfl) rfl rfl ?_
          refine St.call rfl rfl ent8 (Error_ret _ (hg.ext E)) rfl ?_
          rintro r143 w143 ⟨rfl, e143⟩
          replace E := Ext.trans E e143
          replace r22 := r22.ext (REnc.firm _) e143
          replace r24 := r24.ext (REnc.firm _) e143
          refine St.r (R.assign rfl) rfl rfl ?_
          refine St.nil ?_
          refine St.weak [(7, _), (9, _), (11, _), (17, _), (19, _), (20, _), (21, _), (23, _), (25, _), (26, _), (27, _), (28, _)] ⟨rfl, rfl, rfl, rfl, rfl, rfl, rfl, rfl, rfl, rfl, rfl, rfl, trivial⟩ ?_
          refine St.then_n ?_
          refine St.go hK22 ?_
          clear hK22
          refine St.seq fun K23 hK23 => ?_
          refine St.region ?_
          refine St.r (Runs.lit (c := true) (R.move rfl) (rfl)) rfl rfl ?_
          refine St.r (R.move rfl) rfl rfl ?_
          refine St.take (dg := 145) rfl rfl ?_ rfl
          refine St.r (Runs.lit (c := true) (R.move rfl) (rfl)) rfl rfl ?_
          refine St.r (R.pickT rfl rfl) rfl rfl ?_
          refine St.r (R.move rfl) rfl rfl ?_
          refine St.take (dg := 148) rfl rfl ?_ rfl
          refine St.r (Runs.lit (c := true) (R.move rfl) (rfl)) rfl rfl ?_
          refine St.r (R.pickT rfl rfl) rfl rfl ?_
          refine St.r (R.move rfl) rfl rfl ?_
          refine St.take (dg := 151) rfl rfl ?_ rfl
          refine St.r (Runs.lit (c := true) (R.move rfl) (decide_eq_true rfl)) rfl rfl ?_
          refine St.r (R.pickT rfl rfl) rfl rfl ?_
          refine St.r (R.move rfl) rfl rfl ?_
          refine St.take (dg := 154) rfl rfl ?_ rfl
          refine St.r (Runs.lit (c := true) (R.move rfl) (decide_eq_true rfl)) rfl rfl ?_
          refine St.r (R.pickT rfl rfl) rfl rfl ?_
          refine St.r (R.move rfl) rfl rfl ?_
          refine St.take (dg := 157) rfl rfl ?_ rfl
          refine St.r (Runs.lit (c := true) (R.move rfl) (rfl)) rfl rfl ?_
          refine St.r (R.pickT rfl rfl) rfl rfl ?_
          refine St.r (R.move rfl) rfl rfl ?_
          refine St.take (dg := 160) rfl rfl ?_ rfl
          refine St.r (Runs.lit (c := true) (R.move rfl) (rfl)) rfl rfl ?_
          refine St.r (R.pickT rfl rfl) rfl rfl ?_
          refine St.r (R.move rfl) rfl rfl ?_
          refine St.take (dg := 163) rfl rfl ?_ rfl
          refine St.r (Runs.lit (c := true) (R.move rfl) (decide_eq_true rfl)) rfl rfl ?_
          refine St.r (R.pickT rfl rfl) rfl rfl ?_
          refine St.r (R.move rfl) rfl rfl ?_
          refine St.take (dg := 166) rfl rfl ?_ rfl
          refine St.r (R.move rfl) rfl rfl ?_
          refine St.take (dg := 166) rfl rfl ?_ rfl
          refine St.r (R.move rfl) rfl rfl ?_
          refine St.take (dg := 166) rfl rfl ?_ rfl
          refine St.r (Runs.lit (c := true) (R.eql rfl rfl) (decide_eq_true rfl)) rfl rfl ?_
          refine St.r (R.pickT rfl rfl) rfl rfl ?_
          refine St.r (R.move rfl) rfl rfl ?_
          refine St.take (dg := 171) rfl rfl ?_ rfl
          refine St.r (R.move rfl) rfl rfl ?_
          refine St.take (dg := 171) rfl rfl ?_ rfl
          refine St.r (R.move rfl) rfl rfl ?_
          refine St.take (dg := 171) rfl rfl ?_ rfl
          refine St.r (Runs.lit (c := true) (R.eqB Tryd.underlying4 rfl rfl) (by simp)) rfl rfl ?_
          refine St.r (R.pickT rfl rfl) rfl rfl ?_
          refine St.r (R.assign rfl) rfl rfl ?_
          refine St.nil ?_
          refine St.weak [(6, _)] ⟨rfl, trivial⟩ ?_
          refine St.then_n ?_
          refine St.go hK23 ?_
          clear hK23
          refine St.ret ?_
          refine St.ret1 Tryd.results3 rfl ?_
          exact ⟨_, rfl, rfl, E⟩
        intro K17 hK17
        refine St.seq fun K24 hK24 => ?_
        refine St.region ?_
        refine St.r (R.move rfl) rfl rfl ?_
        refine St.r (R.eql rfl rfl) rfl rfl ?_
        refine St.nil ?_
        refine St.weak [(0, _), (1, _), (2, _), (7, _), (9, _), (11, _), (12, _), (17, _), (19, _), (20, _), (21, _), (22, _), (23, _), (111, _)] ⟨rfl, rfl, rfl, rfl, rfl, rfl, rfl, rfl, rfl, rfl, rfl, rfl, rfl, rfl, trivial⟩ ?_
        refine St.then_n ?_
        refine St.go hK24 ?_
        clear hK24
        refine St.condD rfl (fun h111 => ?_) (fun h111 => ?_)
        ·
          have hrab := ready_zero h111
          have hna := (ready_ok hrab).2.2 a (by simp)
          have hnb := (ready_ok hrab).2.2 b (by simp)
          obtain ⟨an, rfl⟩ : ∃ n : Nat, a = (n : Int) := ⟨a.toNat, by omega⟩
          obtain ⟨bn, rfl⟩ : ∃ n : Nat, b = (n : Int) := ⟨b.toNat, by omega⟩
          have hrb : (readyErr ls [(bn : Int)]).isSome = false := ready_of hrab (fun y hy => by rw [List.mem_singleton] at hy; subst hy; exact hnb)
          refine St.seq fun K25 hK25 => ?_
          refine St.region ?_
          refine St.r (R.move rfl) rfl rfl ?_
          refine St.r (R.move rfl) rfl rfl ?_
          refine St.r (R.move rfl) rfl rfl ?_
          refine St.call rfl rfl ent13 (rBases_ret _ (hv.ext RCommit.firm E) hrab) rfl ?_
          rintro r115 w115 ⟨r22, e115⟩
          replace E := Ext.trans E e115
          refine St.r (R.assign rfl) rfl rfl ?_
          refine St.nil ?_
          refine St.weak [(0, _), (1, _), (2, _), (7, _), (9, _), (11, _), (12, _), (17, _), (19, _), (20, _), (21, _), (22, _)] ⟨rfl, rfl, rfl, rfl, rfl, rfl, rfl, rfl, rfl, rfl, rfl, rfl, trivial⟩ ?_
          refine St.then_n ?_
          refine St.go hK25 ?_
          clear hK25
          refine St.region ?_
          refine St.r (R.move rfl) rfl rfl ?_
          refine St.r (R.move rfl) rfl rfl ?_
          refine St.call rfl rfl ent9 (rAnc_ret _ (hv.ext RCommit.firm E) hrb) rfl ?_
          rintro r118 w118 ⟨o118, e118⟩
          replace E := Ext.trans E e118
          replace r22 := r22.ext (REnc.firm _) e118
          refine St.r (R.move rfl) rfl rfl ?_
          refine St.call rfl rfl ent14 (In_ret _ (o118.reads encInt_len)) rfl ?_
          rintro r120 w120 ⟨rfl, e120⟩
          replace E := Ext.trans E e120
          replace r22 := r22.ext (REnc.firm _) e120
          refine St.r (R.assign rfl) rfl rfl ?_
          refine St.nil ?_
          refine St.weak [(0, _), (1, _), (2, _), (7, _), (9, _), (11, _), (12, _), (17, _), (19, _), (20, _), (21, _), (22, _), (23, _)] ⟨rfl, rfl, rfl, rfl, rfl, rfl, rfl, rfl, rfl, rfl, rfl, rfl, rfl, trivial⟩ ?_
          refine St.then_n ?_
          refine St.meet hK17 _ ⟨rfl, rfl, rfl, rfl, rfl, rfl, rfl, rfl, rfl, rfl, rfl, rfl, (look_eq rfl (congrArg Value.bool (in_isB hrab hrb))), trivial⟩ ?_
          · exact ⟨E, r22⟩
        ·
          have hrab : (readyErr ls [a, b]).isSome = true := ready_nz h111
          refine St.skip ?_
          refine St.then_n ?_
          refine St.meet hK17 (.slice none 0 0) ⟨rfl, rfl, rfl, rfl, rfl, rfl, rfl, rfl, rfl, rfl, rfl, rfl, (look_eq rfl (congrArg Value.bool (by rw [isB, if_pos hrab]))), trivial⟩ ?_
          · exact ⟨E, by rw [baseList, if_pos hrab]; exact RSl.nil _ _ _⟩
      intro K14 hK14
      refine St.seq fun K26 hK26 => ?_
      by_cases h99 : (readyErr ls [a]).getD 0 = 0
      ·
        have hra := ready_zero h99
        by_cases h102 : b < 0
        ·
          refine St.region ?_
          refine St.r (R.move rfl) rfl rfl ?_
          refine St.r (Runs.lit (c := true) (R.eql rfl rfl) (decide_eq_true h99)) rfl rfl ?_
          refine St.r (R.move rfl) rfl rfl ?_
          refine St.take (dg := 100) rfl rfl ?_ rfl
          refine St.r (R.move rfl) rfl rfl ?_
          refine St.take (dg := 100) rfl rfl ?_ rfl
          refine St.r (Runs.lit (c := true) (R.lss rfl rfl) (decide_eq_true h102)) rfl rfl ?_
          refine St.take (dg := 100) rfl rfl ?_ rfl
          refine St.r (R.move rfl) rfl rfl ?_
          refine St.pass (dg := 103) rfl rfl rfl rfl rfl ?_
          refine St.pass (dg := 103) rfl rfl rfl rfl rfl ?_
          refine St.pass (dg := 103) rfl rfl rfl rfl rfl ?_
          refine St.pass (dg := 103) rfl rfl rfl rfl rfl ?_
          refine St.take (dg := 100) rfl rfl ?_ rfl
          refine St.r (R.pickT rfl rfl) rfl rfl ?_
          refine St.r (R.pickT rfl rfl) rfl rfl ?_
          refine St.nil ?_
          refine St.weak [(0, _), (1, _), (2, _), (7, _), (9, _), (11, _), (12, _), (17, _), (19, _), (20, _), (21, _), (109, _)] ⟨rfl, rfl, rfl, rfl, rfl, rfl, rfl, rfl, rfl, rfl, rfl, rfl, trivial⟩ ?_
          refine St.then_n ?_
          refine St.go hK26 ?_
          clear hK26
          refine St.condT rfl ?_
          refine St.region ?_
          refine St.r (R.assign rfl) rfl rfl ?_
          refine St.nil ?_
          refine St.weak [(0, _), (1, _), (2, _), (7, _), (9, _), (11, _), (12, _), (17, _), (19, _), (20, _), (21, _)] ⟨rfl, rfl, rfl, rfl, rfl, rfl, rfl, rfl, rfl, rfl, rfl, trivial⟩ ?_
          refine St.then_n ?_
          refine St.meet hK14 () ⟨rfl, rfl, rfl, rfl, rfl, rfl, (look_eq rfl (congrArg Value.bool (decide_eq_true rfl))), (look_eq rfl (congrArg Value.bool (decide_eq_true rfl))), (look_eq rfl (congrArg Value.bool (decide_eq_true rfl))), (look_eq rfl (congrArg Value.bool (decide_eq_true rfl))), (look_int rfl (by rw [ready_bad2 hra (.inl h102)]; rfl)), trivial⟩ ?_
          · exact E
        ·
          refine St.region ?_
          refine St.r (R.move rfl) rfl rfl ?_
          refine St.r (Runs.lit (c := true) (R.eql rfl rfl) (decide_eq_true h99)) rfl rfl ?_
          refine St.r (R.move rfl) rfl rfl ?_
          refine St.take (dg := 100) rfl rfl ?_ rfl
          refine St.r (R.move rfl) rfl rfl ?_
          refine St.take (dg := 100) rfl rfl ?_ rfl
          refine St.r (Runs.lit (c := false) (R.lss rfl rfl) (decide_eq_false h102)) rfl rfl ?_
          refine St.take (dg := 100) rfl rfl ?_ rfl
          refine St.r (R.move rfl) rfl rfl ?_
          refine St.take (dg := 103) rfl rfl ?_ rfl
          refine St.r (R.move rfl) rfl rfl ?_
          refine St.take (dg := 103) rfl rfl ?_ rfl
          refine St.r (R.move rfl) rfl rfl ?_
          refine St.take (dg := 103) rfl rfl ?_ rfl
          refine St.r (R.lenSl Tryd.underlying22 rfl) rfl rfl ?_
          refine St.take (dg := 103) rfl rfl ?_ rfl
          refine St.r (R.geq rfl rfl) rfl rfl ?_
          refine St.take (dg := 100) rfl rfl ?_ rfl
          refine St.r (R.pickF rfl rfl) rfl rfl ?_
          refine St.r (R.pickT rfl rfl) rfl rfl ?_
          refine St.nil ?_
          refine St.weak [(0, _), (1, _), (2, _), (7, _), (9, _), (11, _), (12, _), (17, _), (19, _), (20, _), (21, _), (109, _)] ⟨rfl, rfl, rfl, rfl, rfl, rfl, rfl, rfl, rfl, rfl, rfl, rfl, trivial⟩ ?_
          refine St.then_n ?_
          refine St.go hK26 ?_
          clear hK26
          refine St.condD rfl (fun h107 => ?_) (fun h107 => ?_)
          ·
            refine St.region ?_
            refine St.r (R.assign rfl) rfl rfl ?_
            refine St.nil ?_
            refine St.weak [(0, _), (1, _), (2, _), (7, _), (9, _), (11, _), (12, _), (17, _), (19, _), (20, _), (21, _)] ⟨rfl, rfl, rfl, rfl, rfl, rfl, rfl, rfl, rfl, rfl, rfl, trivial⟩ ?_
            refine St.then_n ?_
            refine St.meet hK14 () ⟨rfl, rfl, rfl, rfl, rfl, rfl, (look_eq rfl (congrArg Value.bool (decide_eq_true rfl))), (look_eq rfl (congrArg Value.bool (decide_eq_true rfl))), (look_eq rfl (congrArg Value.bool (decide_eq_true rfl))), (look_eq rfl (congrArg Value.bool (decide_eq_true rfl))), (look_int rfl (by rw [ready_bad2 hra (.inr h107)]; rfl)), trivial⟩ ?_
            · exact E
          ·
            refine St.skip ?_
            refine St.then_n ?_
            refine St.meet hK14 () ⟨rfl, rfl, rfl, rfl, rfl, rfl, (look_eq rfl (congrArg Value.bool (decide_eq_true rfl))), (look_eq rfl (congrArg Value.bool (decide_eq_true rfl))), (look_eq rfl (congrArg Value.bool (decide_eq_true rfl))), (look_eq rfl (congrArg Value.bool (decide_eq_true rfl))), (look_int rfl (by rw [ready_good2 hra h102 h107])), trivial⟩ ?_
            · exact E
      ·
        refine St.region ?_
        refine St.r (R.move rfl) rfl rfl ?_
        refine St.r (Runs.lit (c := false) (R.eql rfl rfl) (decide_eq_false h99)) rfl rfl ?_
        refine St.r (R.move rfl) rfl rfl ?_
        refine St.pass (dg := 100) rfl rfl rfl rfl rfl ?_
        refine St.pass (dg := 100) rfl rfl rfl rfl rfl ?_
        refine St.pass (dg := 100) rfl rfl rfl rfl rfl ?_
        refine St.passU (dg := 103) rfl rfl rfl rfl ?_
        refine St.passU (dg := 103) rfl rfl rfl rfl ?_
        refine St.passU (dg := 103) rfl rfl rfl rfl ?_
        refine St.passU (dg := 103) rfl rfl rfl rfl ?_
        refine St.pass (dg := 100) rfl rfl rfl rfl rfl ?_
        refine St.r (R.pickF rfl rfl) rfl rfl ?_
        refine St.nil ?_
        refine St.weak [(0, _), (1, _), (2, _), (7, _), (9, _), (11, _), (12, _), (17, _), (19, _), (20, _), (21, _), (109, _)] ⟨rfl, rfl, rfl, rfl, rfl, rfl, rfl, rfl, rfl, rfl, rfl, rfl, trivial⟩ ?_
        refine St.then_n ?_
        refine St.go hK26 ?_
        clear hK26
        refine St.condF rfl ?_
        refine St.skip ?_
        refine St.then_n ?_
        refine St.meet hK14 () ⟨rfl, rfl, rfl, rfl, rfl, rfl, (look_eq rfl (congrArg Value.bool (decide_eq_true rfl))), (look_eq rfl (congrArg Value.bool (decide_eq_true rfl))), (look_eq rfl (congrArg Value.bool (decide_eq_true rfl))), (look_eq rfl (congrArg Value.bool (decide_eq_true rfl))), (look_int rfl (by rw [ready_two h99])), trivial⟩ ?_
        · exact E
    intro K7 hK7
    refine St.seq fun K27 hK27 => ?_
    refine St.region ?_
    refine St.r (R.move rfl) rfl rfl ?_
    refine St.r (R.eql rfl rfl) rfl rfl ?_
    refine St.nil ?_
    refine St.weak [(0, _), (1, _), (2, _), (7, _), (9, _), (11, _), (12, _), (13, _), (14, _), (56, _)] ⟨rfl, rfl, rfl, rfl, rfl, rfl, rfl, rfl, rfl, rfl, trivial⟩ ?_
    refine St.then_n ?_
    refine St.go hK27 ?_
    clear hK27
    refine St.condD rfl (fun h56 => ?_) (fun h56 => ?_)
    ·
      have hra := ready_zero h56
      have hna := (ready_ok hra).2.2 a (by simp)
      obtain ⟨an, rfl⟩ : ∃ n : Nat, a = (n : Int) := ⟨a.toNat, by omega⟩
      refine St.seq fun K28 hK28 => ?_
      refine St.region ?_
      refine St.r (R.move rfl) rfl rfl ?_
      refine St.r (R.move rfl) rfl rfl ?_
      refine St.call rfl rfl ent9 (rAnc_ret _ (hv.ext RCommit.firm E) hra) rfl ?_
      rintro r59 w59 ⟨o59, e59⟩
      replace E := Ext.trans E e59
      have r13 := o59.reads encInt_len
      obtain ⟨xA, xc, rfl, hx1, hx2⟩ := o59.form
      have F := Ext.refl w59
      have z59 := E.size
      have hal := ancList_length ls (an : Int)
      clear o59
      refine St.r (R.assign rfl) rfl rfl ?_
      refine St.nil ?_
      refine St.weak [(0, _), (1, _), (2, _), (7, _), (9, _), (11, _), (12, _), (13, _), (14, _)] ⟨rfl, rfl, rfl, rfl, rfl, rfl, rfl, rfl, rfl, trivial⟩ ?_
      refine St.then_n ?_
      refine St.go hK28 ?_
      clear hK28
      refine St.seq fun K29 hK29 => ?_
      refine St.region ?_
      refine St.r (R.move rfl) rfl rfl ?_
      refine St.r (R.lenSl Tryd.underlying30 rfl) rfl rfl ?_
      refine St.r (R.sub rfl rfl (by omega) (by omega)) rfl rfl ?_
      refine St.r (R.assign rfl) rfl rfl ?_
      refine St.nil ?_
      refine St.weak [(0, _), (1, _), (2, _), (7, _), (9, _), (11, _), (12, _), (13, _), (14, _), (15, _)] ⟨rfl, rfl, rfl, rfl, rfl, rfl, rfl, rfl, rfl, rfl, trivial⟩ ?_
      refine St.then_n ?_
      refine St.go hK29 ?_
      clear hK29
      refine St.block ?_
      refine St.loop (fun (x : Nat × Value) => match x with | (k, v14) => [(0, .slice A ls.length c), (1, .int .i64 (an : Int)), (2, .int .i64 b), (7, .int .i64 (checkErr ls).1), (9, .int .i64 (checkErr ls).1), (11, .bool true), (12, .int .i64 ((readyErr ls [(an : Int)]).getD 0)), (13, .slice xA (ancList ls (an : Int)).length xc), (14, v14), (15, .int .i64 ((k : Int) - 1))])
          (fun (x : Nat × Value) w => match x with | (k, v14) => k ≤ (ancList ls (an : Int)).length ∧ Ext w0 w ∧ Ext w59 w ∧ Own encInt 1 w59.heap.size 3 w v14 ((ancList ls (an : Int)).drop k).reverse)
          (fun (x : Nat × Value) => match x with | (k, v14) => k) ((ancList ls (an : Int)).length, .slice none 0 0) ⟨rfl, rfl, rfl, rfl, rfl, rfl, rfl, rfl, rfl, (look_int rfl (by omega)), trivial⟩ ?_ ?_
      · exact ⟨Nat.le_refl _, E, F, by rw [List.drop_length]; exact Own.nil _ _ _ _ _⟩
      rintro ⟨k, v14⟩ w ⟨hk, E, F, o14⟩
      show St _ _ [(0, .slice A ls.length c), (1, .int .i64 (an : Int)), (2, .int .i64 b), (7, .int .i64 (checkErr ls).1), (9, .int .i64 (checkErr ls).1), (11, .bool true), (12, .int .i64 ((readyErr ls [(an : Int)]).getD 0)), (13, .slice xA (ancList ls (an : Int)).length xc), (14, v14), (15, .int .i64 ((k : Int) - 1))] _ _
      refine St.seq fun K30 hK30 => ?_
      refine St.seq fun K31 hK31 => ?_
      refine St.region ?_
      refine St.r (R.move rfl) rfl rfl ?_
      refine St.r (R.geq rfl rfl) rfl rfl ?_
      refine St.nil ?_
      refine St.weak [(0, _), (1, _), (2, _), (7, _), (9, _), (11, _), (12, _), (13, _), (14, _), (15, _), (64, _)] ⟨rfl, rfl, rfl, rfl, rfl, rfl, rfl, rfl, rfl, rfl, rfl, trivial⟩ ?_
      refine St.then_n ?_
      refine St.go hK31 ?_
      clear hK31
      refine St.condD rfl (fun h64 => ?_) (fun h64 => ?_)
      ·
        obtain ⟨k, rfl⟩ : ∃ m, k = m + 1 := ⟨k - 1, by omega⟩
        obtain ⟨x, hx⟩ := get_of_lt (xs := ancList ls (an : Int)) (k := k) (by omega)
        obtain ⟨xb, xo, rfl, hxc⟩ := r13.get' hx
        refine St.skip ?_
        refine St.then_n ?_
        refine St.go hK30 ?_
        clear hK30
        refine St.seq fun K32 hK32 => ?_
        refine St.block ?_
        refine St.region ?_
        refine St.r (R.move rfl) rfl rfl ?_
        refine St.r (R.move rfl) rfl rfl ?_
        refine St.r (R.move rfl) rfl rfl ?_
        refine St.r (R.indexS k Tryd.underlying30 Tryd.sizeOf3 rfl rfl (by omega) (by omega)) rfl rfl ?_
        refine St.r (R.load1 Tryd.isAgg3 rfl ((F.cells hxc).at 0 rfl)) rfl rfl ?_
        refine St.buildSl Tryd.underlying30 Tryd.sizeOf3 Tryd.zeroValue3 rfl rfl rfl rfl (by intro u hu; simp only [List.mem_cons, List.not_mem_nil, or_false] at hu; first | (subst hu; rfl) | (rcases hu with rfl | rfl <;> rfl) | (rcases hu with rfl | rfl | rfl <;> rfl) | (rcases hu with rfl | rfl | rfl | rfl <;> rfl)) rfl ?_
        intro w72 b72 hb72 hs72 e72 k72
        have qE72 := E.size
        have qF72 := F.size
        replace E := Ext.trans E e72
        replace F := Ext.trans F e72
        replace o14 := o14.ext e72
        refine St.append (enc := encInt) (fun _ => rfl) one_int Tryd.underlying30 info3 rfl rfl rfl rfl o14 (RSl.mk (enc := encInt) (xs := [x]) encInt_len k72.cells (fun i u hu => hu) (by simp) (by simp)) (by simp; omega) (by simp; omega) F.size rfl ?_
        intro v73 w73 a73 g73 at73
        replace E := Ext.then E g73 (by intro j hj hk; have := (o14.base hk).1; omega)
        replace F := Ext.then F g73 (by intro j hj hk; have := (o14.base hk).1; omega)
        clear o14; have o14 := a73; clear a73
        refine St.r (R.assign rfl) rfl rfl ?_
        refine St.nil ?_
        refine St.weak [(0, _), (1, _), (2, _), (7, _), (9, _), (11, _), (12, _), (13, _), (14, _), (15, _)] ⟨rfl, rfl, rfl, rfl, rfl, rfl, rfl, rfl, rfl, rfl, trivial⟩ ?_
        refine St.in_n ?_
        refine St.then_n ?_
        refine St.go hK32 ?_
        clear hK32
        refine St.region ?_
        refine St.r (R.move rfl) rfl rfl ?_
        refine St.r (R.sub rfl rfl (by omega) (by omega)) rfl rfl ?_
        refine St.r (R.assign rfl) rfl rfl ?_
        refine St.nil ?_
        refine St.weak [(0, _), (1, _), (2, _), (7, _), (9, _), (11, _), (12, _), (13, _), (14, _), (15, _)] ⟨rfl, rfl, rfl, rfl, rfl, rfl, rfl, rfl, rfl, rfl, trivial⟩ ?_
        refine St.then_n ?_
        refine St.round (k, v73) ⟨rfl, rfl, rfl, rfl, rfl, rfl, rfl, rfl, rfl, (look_int rfl (by omega)), trivial⟩ ?_ ?_
        · try dsimp only
          exact ⟨by omega, E, F, by rw [rev_take hx]; exact o14⟩
        · try dsimp only
          omega
      ·
        obtain rfl : k = 0 := by omega
        refine St.exit ?_
        refine St.then_x ?_
        refine St.then_x ?_
        refine St.in_x ?_
        refine St.then_n ?_
        refine St.meet hK7 (_, v14) ⟨rfl, rfl, rfl, rfl, rfl, rfl, rfl, rfl, rfl, trivial⟩ ?_
        · try dsimp only
          exact ⟨E, r13.ext (REnc.firm _) F, o14.reads encInt_len⟩
    ·
      have hra : (readyErr ls [a]).isSome = true := ready_nz h56
      refine St.skip ?_
      refine St.then_n ?_
      refine St.meet hK7 (.slice none 0 0, .slice none 0 0) ⟨rfl, rfl, rfl, rfl, rfl, rfl, rfl, rfl, rfl, trivial⟩ ?_
      · try dsimp only
        refine ⟨E, ?_, ?_⟩ <;> rw [ancList, if_pos hra] <;> exact RSl.nil _ _ _
  intro K5 hK5
  refine St.seq fun K33 hK33 => ?_
  by_cases h44 : (checkErr ls).2.getD 0 = 0
  ·
    have hcn := check_zero h44
    by_cases h47 : a < 0
    ·
      refine St.region ?_
      refine St.r (R.move rfl) rfl rfl ?_
      refine St.r (Runs.lit (c := true) (R.eql rfl rfl) (decide_eq_true h44)) rfl rfl ?_
      refine St.r (R.move rfl) rfl rfl ?_
      refine St.take (dg := 45) rfl rfl ?_ rfl
      refine St.r (R.move rfl) rfl rfl ?_
      refine St.take (dg := 45) rfl rfl ?_ rfl
      refine St.r (Runs.lit (c := true) (R.lss rfl rfl) (decide_eq_true h47)) rfl rfl ?_
      refine St.take (dg := 45) rfl rfl ?_ rfl
      refine St.r (R.move rfl) rfl rfl ?_
      refine St.pass (dg := 48) rfl rfl rfl rfl rfl ?_
      refine St.pass (dg := 48) rfl rfl rfl rfl rfl ?_
      refine St.pass (dg := 48) rfl rfl rfl rfl rfl ?_
      refine St.pass (dg := 48) rfl rfl rfl rfl rfl ?_
      refine St.take (dg := 45) rfl rfl ?_ rfl
      refine St.r (R.pickT rfl rfl) rfl rfl ?_
      refine St.r (R.pickT rfl rfl) rfl rfl ?_
      refine St.nil ?_
      refine St.weak [(0, _), (1, _), (2, _), (7, _), (9, _), (11, _), (12, _), (54, _)] ⟨rfl, rfl, rfl, rfl, rfl, rfl, rfl, rfl, trivial⟩ ?_
      refine St.then_n ?_
      refine St.go hK33 ?_
      clear hK33
      refine St.condT rfl ?_
      refine St.region ?_
      refine St.r (R.assign rfl) rfl rfl ?_
      refine St.nil ?_
      refine St.weak [(0, _), (1, _), (2, _), (7, _), (9, _), (11, _), (12, _)] ⟨rfl, rfl, rfl, rfl, rfl, rfl, rfl, trivial⟩ ?_
      refine St.then_n ?_
      refine St.meet hK5 () ⟨rfl, rfl, rfl, rfl, rfl, (look_eq rfl (congrArg Value.bool hone)), (look_int rfl (by rw [ready_bad hcn (.inl h47)]; rfl)), trivial⟩ ?_
      · exact E
    ·
      refine St.region ?_
      refine St.r (R.move rfl) rfl rfl ?_
      refine St.r (Runs.lit (c := true) (R.eql rfl rfl) (decide_eq_true h44)) rfl rfl ?_
      refine St.r (R.move rfl) rfl rfl ?_
      refine St.take (dg := 45) rfl rfl ?_ rfl
      refine St.r (R.move rfl) rfl rfl ?_
      refine St.take (dg := 45) rfl rfl ?_ rfl
      refine St.r (Runs.lit (c := false) (R.lss rfl rfl) (decide_eq_false h47)) rfl rfl ?_
      refine St.take (dg := 45) rfl rfl ?_ rfl
      refine St.r (R.move rfl) rfl rfl ?_
      refine St.take (dg := 48) rfl rfl ?_ rfl
      refine St.r (R.move rfl) rfl rfl ?_
      refine St.take (dg := 48) rfl rfl ?_ rfl
      refine St.r (R.move rfl) rfl rfl ?_
      refine St.take (dg := 48) rfl rfl ?_ rfl
      refine St.r (R.lenSl Tryd.underlying22 rfl) rfl rfl ?_
      refine St.take (dg := 48) rfl rfl ?_ rfl
      refine St.r (R.geq rfl rfl) rfl rfl ?_
      refine St.take (dg := 45) rfl rfl ?_ rfl
      refine St.r (R.pickF rfl rfl) rfl rfl ?_
      refine St.r (R.pickT rfl rfl) rfl rfl ?_
      refine St.nil ?_
      refine St.weak [(0, _), (1, _), (2, _), (7, _), (9, _), (11, _), (12, _), (54, _)] ⟨rfl, rfl, rfl, rfl, rfl, rfl, rfl, rfl, trivial⟩ ?_
      refine St.then_n ?_
      refine St.go hK33 ?_
      clear hK33
      refine St.condD rfl (fun h52 => ?_) (fun h52 => ?_)
      ·
        refine St.region ?_
        refine St.r (R.assign rfl) rfl rfl ?_
        refine St.nil ?_
        refine St.weak [(0, _), (1, _), (2, _), (7, _), (9, _), (11, _), (12, _)] ⟨rfl, rfl, rfl, rfl, rfl, rfl, rfl, trivial⟩ ?_
        refine St.then_n ?_
        refine St.meet hK5 () ⟨rfl, rfl, rfl, rfl, rfl, (look_eq rfl (congrArg Value.bool hone)), (look_int rfl (by rw [ready_bad hcn (.inr h52)]; rfl)), trivial⟩ ?_
        · exact E
      ·
        refine St.skip ?_
        refine St.then_n ?_
        refine St.meet hK5 () ⟨rfl, rfl, rfl, rfl, rfl, (look_eq rfl (congrArg Value.bool hone)), (look_int rfl (by rw [ready_good hcn h47 h52])), trivial⟩ ?_
        · exact E
  ·
    refine St.region ?_
    refine St.r (R.move rfl) rfl rfl ?_
    refine St.r (Runs.lit (c := false) (R.eql rfl rfl) (decide_eq_false h44)) rfl rfl ?_
    refine St.r (R.move rfl) rfl rfl ?_
    refine St.pass (dg := 45) rfl rfl rfl rfl rfl ?_
    refine St.pass (dg := 45) rfl rfl rfl rfl rfl ?_
    refine St.pass (dg := 45) rfl rfl rfl rfl rfl ?_
    refine St.passU (dg := 48) rfl rfl rfl rfl ?_
    refine St.passU (dg := 48) rfl rfl rfl rfl ?_
    refine St.passU (dg := 48) rfl rfl rfl rfl ?_
    refine St.passU (dg := 48) rfl rfl rfl rfl ?_
    refine St.pass (dg := 45) rfl rfl rfl rfl rfl ?_
    refine St.r (R.pickF rfl rfl) rfl rfl ?_
    refine St.nil ?_
    refine St.weak [(0, _), (1, _), (2, _), (7, _), (9, _), (11, _), (12, _), (54, _)] ⟨rfl, rfl, rfl, rfl, rfl, rfl, rfl, rfl, trivial⟩ ?_
    refine St.then_n ?_
    refine St.go hK33 ?_
    clear hK33
    refine St.condF rfl ?_
    refine St.skip ?_
    refine St.then_n ?_
    refine St.meet hK5 () ⟨rfl, rfl, rfl, rfl, rfl, (look_eq rfl (congrArg Value.bool hone)), (look_int rfl (by rw [ready_check h44])), trivial⟩ ?_
    · exact E

end Go.Proofs.YtjgcmpondbocfaaDoor
