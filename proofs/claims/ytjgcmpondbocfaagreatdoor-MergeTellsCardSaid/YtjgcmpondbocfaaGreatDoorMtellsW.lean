/- The law MergeTells walked: whatever it reads, it comes to true. Under the reading of the arguments; the variable errors.errorType holds the handle of the type error. -/
import Derived.Test.YtjgcmpondbocfaaGreatDoorProg
import Derived.Test.YtjgcmpondbocfaaGreatDoorRef3W
import Derived.Test.YtjgcmpondbocfaaGreatDoorSameW
import Derived.Test.YtjgcmpondbocfaaGreatDoorMergeLaw
import Derived.Test.YtjgcmpondbocfaaGreatDoorErrs
namespace Go.Proofs.YtjgcmpondbocfaaGreatDoor
open Go.RowKit 
theorem ent11 : Ent Tryz.prog 11 := Ent.of Tryz.func11 (by kernel_rfl) rfl
theorem ent32 : Ent Tryz.prog 32 := Ent.of Tryz.func32 (by kernel_rfl) rfl
theorem ent33 : Ent Tryz.prog 33 := Ent.of Tryz.func33 (by kernel_rfl) rfl
theorem ent34 : Ent Tryz.prog 34 := Ent.of Tryz.func34 (by kernel_rfl) rfl
theorem ent35 : Ent Tryz.prog 35 := Ent.of Tryz.func35 (by kernel_rfl) rfl
theorem ent36 : Ent Tryz.prog 36 := Ent.of Tryz.func36 (by kernel_rfl) rfl
theorem ent37 : Ent Tryz.prog 37 := Ent.of Tryz.func37 (by kernel_rfl) rfl
theorem ent38 : Ent Tryz.prog 38 := Ent.of Tryz.func38 (by kernel_rfl) rfl
theorem ent39 : Ent Tryz.prog 39 := Ent.of Tryz.func39 (by kernel_rfl) rfl

theorem merge_ks {base a b : List Triple} {k1 k2 : List Clash} (h1 : rightErr [base, a, b] = none → IsPairs [base, a, b] k1) (h2 : rightErr [base, a, b] = none → IsPairs [base, a, b] k2) : mergeL base a b k1 = mergeL base a b k2 := by
  cases hc : rightErr [base, a, b] with
  | none => rw [(h1 hc).uniq (h2 hc)]
  | some e => simp only [mergeL, hc]
theorem prefer_ks {base a b : List Triple} {f : Bool} {k1 k2 : List Clash} (h1 : rightErr [base, a, b] = none → IsPairs [base, a, b] k1) (h2 : rightErr [base, a, b] = none → IsPairs [base, a, b] k2) : preferL base a b f k1 = preferL base a b f k2 := by
  cases hc : rightErr [base, a, b] with
  | none => rw [(h1 hc).uniq (h2 hc)]
  | some e => simp only [preferL, hc]
theorem diff_ks {a b : List Triple} {k1 k2 : List Clash} (h1 : rightErr [a, b] = none → IsPairs [a, b] k1) (h2 : rightErr [a, b] = none → IsPairs [a, b] k2) : (if (rightErr [a, b]).isSome then [] else diffL a b k1) = if (rightErr [a, b]).isSome then [] else diffL a b k2 := by
  cases hc : rightErr [a, b] with
  | none => rw [(h1 hc).uniq (h2 hc)]
  | some e => rfl

set_option maxHeartbeats 4000000 in
set_option maxRecDepth 100000 in
theorem MergeTells_ret {base a b : List Triple} {v0 v1 v2 : Value} {first : Bool} (w0 : World) (hg : ErrType w0) (h0 : RTriples w0 v0 base) (h1 : RTriples w0 v1 a) (h2 : RTriples w0 v2 b) : Ret Tryz.prog 5 [v0, v1, v2, .bool first] w0 fun r w' => r = .bool true ∧ Ext w0 w' := by
  have E : Ext w0 w0 := Ext.refl w0
  refine St.enter (N := 133) Tryz.func5 rfl Tryz.ntmps5 rfl ?_
  refine St.seq fun K0 hK0 => ?_
  refine St.region ?_
  refine St.r (R.assign rfl) rfl rfl ?_
  refine St.nil ?_
  refine St.weak [(0, _), (1, _), (2, _), (3, _)] ⟨rfl, rfl, rfl, rfl, trivial⟩ ?_
  refine St.then_n ?_
  refine St.go hK0 ?_
  clear hK0
  refine St.seq fun K1 hK1 => ?_
  refine St.region ?_
  refine St.r (R.move rfl) rfl rfl ?_
  refine St.r (R.move rfl) rfl rfl ?_
  refine St.call rfl rfl ent32 (rTwo_ret _ (h0.ext (REnc.firm _) E) (h1.ext (REnc.firm _) E)) rfl ?_
  rintro r30 w30 ⟨rfl, e30⟩
  replace E := Ext.trans E e30
  refine St.r (R.assign rfl) rfl rfl ?_
  refine St.nil ?_
  refine St.weak [(0, _), (1, _), (2, _), (3, _), (9, _)] ⟨rfl, rfl, rfl, rfl, rfl, trivial⟩ ?_
  refine St.then_n ?_
  refine St.go hK1 ?_
  clear hK1
  refine St.seqJ (fun (x : Unit) => match x with | () => [(0, v0), (1, v1), (2, v2), (3, .bool first), (9, .int .i64 (wrongI (rightErr [base, a, b])))])
      (fun (x : Unit) w => match x with | () => Ext w0 w) ?_ ?_
  · rintro _ w E
    show St _ _ [(0, v0), (1, v1), (2, v2), (3, .bool first), (9, .int .i64 (wrongI (rightErr [base, a, b])))] _ _
    refine St.seq fun K3 hK3 => ?_
    refine St.region ?_
    refine St.r (R.assign rfl) rfl rfl ?_
    refine St.r (R.assign rfl) rfl rfl ?_
    refine St.nil ?_
    refine St.weak [(0, _), (1, _), (2, _), (3, _), (9, _), (10, _), (11, _)] ⟨rfl, rfl, rfl, rfl, rfl, rfl, rfl, trivial⟩ ?_
    refine St.then_n ?_
    refine St.go hK3 ?_
    clear hK3
    refine St.seq fun K4 hK4 => ?_
    refine St.region ?_
    refine St.r (R.assign rfl) rfl rfl ?_
    refine St.nil ?_
    refine St.weak [(0, _), (1, _), (2, _), (3, _), (9, _), (10, _), (11, _), (12, _)] ⟨rfl, rfl, rfl, rfl, rfl, rfl, rfl, rfl, trivial⟩ ?_
    refine St.then_n ?_
    refine St.go hK4 ?_
    clear hK4
    refine St.seq fun K5 hK5 => ?_
    refine St.region ?_
    refine St.r (R.move rfl) rfl rfl ?_
    refine St.r (R.assign rfl) rfl rfl ?_
    refine St.nil ?_
    refine St.weak [(0, _), (1, _), (2, _), (3, _), (9, _), (10, _), (11, _), (12, _), (13, _)] ⟨rfl, rfl, rfl, rfl, rfl, rfl, rfl, rfl, rfl, trivial⟩ ?_
    refine St.then_n ?_
    refine St.go hK5 ?_
    clear hK5
    refine St.seq fun K6 hK6 => ?_
    refine St.region ?_
    refine St.r (R.move rfl) rfl rfl ?_
    refine St.r (R.assign rfl) rfl rfl ?_
    refine St.nil ?_
    refine St.weak [(0, _), (1, _), (2, _), (3, _), (9, _), (10, _), (11, _), (12, _), (13, _), (14, _)] ⟨rfl, rfl, rfl, rfl, rfl, rfl, rfl, rfl, rfl, rfl, trivial⟩ ?_
    refine St.then_n ?_
    refine St.go hK6 ?_
    clear hK6
    refine St.seqJ (fun (x : List Clash × Value × Value × Value) => match x with | (ks, v10, v11, v12) => [(0, v0), (1, v1), (2, v2), (3, .bool first), (10, v10), (11, v11), (12, v12), (13, .int .i64 (wrongI (mergeL base a b ks).2.2)), (14, .int .i64 (wrongI (preferL base a b first ks).2))])
        (fun (x : List Clash × Value × Value × Value) w => match x with | (ks, v10, v11, v12) => Ext w0 w ∧ (rightErr [base, a, b] = none → IsPairs [base, a, b] ks) ∧ RTriples w v10 (mergeL base a b ks).1 ∧ RTriples w v11 (preferL base a b first ks).1 ∧ RClashes w v12 (mergeL base a b ks).2.1) ?_ ?_
    · rintro ⟨ks, v10, v11, v12⟩ w ⟨E, hks, r10, r11, r12⟩
      show St _ _ [(0, v0), (1, v1), (2, v2), (3, .bool first), (10, v10), (11, v11), (12, v12), (13, .int .i64 (wrongI (mergeL base a b ks).2.2)), (14, .int .i64 (wrongI (preferL base a b first ks).2))] _ _
      refine St.seq fun K8 hK8 => ?_
      refine St.region ?_
      refine St.r (R.move rfl) rfl rfl ?_
      refine St.r (R.move rfl) rfl rfl ?_
      refine St.r (R.move rfl) rfl rfl ?_
      refine St.call rfl rfl ent34 (Merge_ret _ (h0.ext (REnc.firm _) E) (h1.ext (REnc.firm _) E) (h2.ext (REnc.firm _) E)) rfl ?_
      rintro r67 w67 ⟨x, l, ks3, rfl, hk3, rx, rl, e67⟩
      replace E := Ext.trans E e67
      replace r10 := r10.ext (REnc.firm _) e67
      replace r11 := r11.ext (REnc.firm _) e67
      replace r12 := r12.ext (REnc.firm _) e67
      rw [merge_ks hk3 hks] at rx rl ⊢
      refine St.r (R.move rfl) rfl rfl ?_
      refine St.r (R.extract rfl rfl) rfl rfl ?_
      refine St.r (R.extract rfl rfl) rfl rfl ?_
      refine St.r (R.extract rfl rfl) rfl rfl ?_
      refine St.r (R.assign rfl) rfl rfl ?_
      refine St.r (R.assign rfl) rfl rfl ?_
      refine St.r (R.assign rfl) rfl rfl ?_
      refine St.nil ?_
      refine St.weak [(0, _), (1, _), (2, _), (3, _), (10, _), (11, _), (12, _), (13, _), (14, _), (15, _), (16, _), (17, _)] ⟨rfl, rfl, rfl, rfl, rfl, rfl, rfl, rfl, rfl, rfl, rfl, rfl, trivial⟩ ?_
      refine St.then_n ?_
      refine St.go hK8 ?_
      clear hK8
      refine St.seq fun K9 hK9 => ?_
      refine St.region ?_
      refine St.r (R.move rfl) rfl rfl ?_
      refine St.r (R.move rfl) rfl rfl ?_
      refine St.call rfl rfl ent11 (Error_ret _ (hg.ext E)) rfl ?_
      rintro r73 w73 ⟨rfl, e73⟩
      replace E := Ext.trans E e73
      replace r10 := r10.ext (REnc.firm _) e73
      replace r11 := r11.ext (REnc.firm _) e73
      replace r12 := r12.ext (REnc.firm _) e73
      replace rx := rx.ext (REnc.firm _) e73
      replace rl := rl.ext (REnc.firm _) e73
      refine St.r (Runs.lit (c := true) (R.assign rfl) (decide_eq_true rfl)) rfl rfl ?_
      refine St.nil ?_
      refine St.weak [(0, _), (1, _), (2, _), (3, _), (10, _), (11, _), (12, _), (14, _), (15, _), (16, _), (18, _)] ⟨rfl, rfl, rfl, rfl, rfl, rfl, rfl, rfl, rfl, rfl, rfl, trivial⟩ ?_
      refine St.then_n ?_
      refine St.go hK9 ?_
      clear hK9
      refine St.seq fun K10 hK10 => ?_
      refine St.region ?_
      refine St.r (R.move rfl) rfl rfl ?_
      refine St.r (R.move rfl) rfl rfl ?_
      refine St.call rfl rfl ent35 (sTriples_ret _ rx r10) rfl ?_
      rintro r76 w76 ⟨rfl, e76⟩
      replace E := Ext.trans E e76
      replace r10 := r10.ext (REnc.firm _) e76
      replace r11 := r11.ext (REnc.firm _) e76
      replace r12 := r12.ext (REnc.firm _) e76
      replace rx := rx.ext (REnc.firm _) e76
      replace rl := rl.ext (REnc.firm _) e76
      refine St.r (Runs.lit (c := true) (R.assign rfl) (decide_eq_true rfl)) rfl rfl ?_
      refine St.nil ?_
      refine St.weak [(0, _), (1, _), (2, _), (3, _), (11, _), (12, _), (14, _), (16, _), (18, _), (19, _)] ⟨rfl, rfl, rfl, rfl, rfl, rfl, rfl, rfl, rfl, rfl, trivial⟩ ?_
      refine St.then_n ?_
      refine St.go hK10 ?_
      clear hK10
      refine St.seq fun K11 hK11 => ?_
      refine St.region ?_
      refine St.r (R.move rfl) rfl rfl ?_
      refine St.r (R.move rfl) rfl rfl ?_
      refine St.call rfl rfl ent36 (sClashes_ret _ rl r12) rfl ?_
      rintro r79 w79 ⟨rfl, e79⟩
      replace E := Ext.trans E e79
      replace r10 := r10.ext (REnc.firm _) e79
      replace r11 := r11.ext (REnc.firm _) e79
      replace r12 := r12.ext (REnc.firm _) e79
      replace rx := rx.ext (REnc.firm _) e79
      replace rl := rl.ext (REnc.firm _) e79
      refine St.r (Runs.lit (c := true) (R.assign rfl) (decide_eq_true rfl)) rfl rfl ?_
      refine St.nil ?_
      refine St.weak [(0, _), (1, _), (2, _), (3, _), (11, _), (14, _), (18, _), (19, _), (20, _)] ⟨rfl, rfl, rfl, rfl, rfl, rfl, rfl, rfl, rfl, trivial⟩ ?_
      refine St.then_n ?_
      refine St.go hK11 ?_
      clear hK11
      refine St.seq fun K12 hK12 => ?_
      refine St.region ?_
      refine St.r (R.move rfl) rfl rfl ?_
      refine St.r (R.move rfl) rfl rfl ?_
      refine St.r (R.move rfl) rfl rfl ?_
      refine St.r (R.move rfl) rfl rfl ?_
      refine St.call rfl rfl ent37 (Prefer_ret _ (h0.ext (REnc.firm _) E) (h1.ext (REnc.firm _) E) (h2.ext (REnc.firm _) E)) rfl ?_
      rintro r85 w85 ⟨y, ks4, rfl, hk4, ry, e85⟩
      replace E := Ext.trans E e85
      replace r10 := r10.ext (REnc.firm _) e85
      replace r11 := r11.ext (REnc.firm _) e85
      replace r12 := r12.ext (REnc.firm _) e85
      replace rx := rx.ext (REnc.firm _) e85
      replace rl := rl.ext (REnc.firm _) e85
      rw [prefer_ks hk4 hks] at ry ⊢
      refine St.r (R.move rfl) rfl rfl ?_
      refine St.r (R.extract rfl rfl) rfl rfl ?_
      refine St.r (R.extract rfl rfl) rfl rfl ?_
      refine St.r (R.assign rfl) rfl rfl ?_
      refine St.r (R.assign rfl) rfl rfl ?_
      refine St.nil ?_
      refine St.weak [(1, _), (2, _), (11, _), (14, _), (17, _), (18, _), (19, _), (20, _), (21, _)] ⟨rfl, rfl, rfl, rfl, rfl, rfl, rfl, rfl, rfl, trivial⟩ ?_
      refine St.then_n ?_
      refine St.go hK12 ?_
      clear hK12
      refine St.seq fun K13 hK13 => ?_
      refine St.region ?_
      refine St.r (R.move rfl) rfl rfl ?_
      refine St.r (R.move rfl) rfl rfl ?_
      refine St.call rfl rfl ent11 (Error_ret _ (hg.ext E)) rfl ?_
      rintro r90 w90 ⟨rfl, e90⟩
      replace E := Ext.trans E e90
      replace r10 := r10.ext (REnc.firm _) e90
      replace r11 := r11.ext (REnc.firm _) e90
      replace r12 := r12.ext (REnc.firm _) e90
      replace rx := rx.ext (REnc.firm _) e90
      replace rl := rl.ext (REnc.firm _) e90
      replace ry := ry.ext (REnc.firm _) e90
      refine St.r (Runs.lit (c := true) (R.assign rfl) (decide_eq_true rfl)) rfl rfl ?_
      refine St.nil ?_
      refine St.weak [(1, _), (2, _), (11, _), (18, _), (19, _), (20, _), (21, _), (22, _)] ⟨rfl, rfl, rfl, rfl, rfl, rfl, rfl, rfl, trivial⟩ ?_
      refine St.then_n ?_
      refine St.go hK13 ?_
      clear hK13
      refine St.seq fun K14 hK14 => ?_
      refine St.region ?_
      refine St.r (R.move rfl) rfl rfl ?_
      refine St.r (R.move rfl) rfl rfl ?_
      refine St.call rfl rfl ent35 (sTriples_ret _ ry r11) rfl ?_
      rintro r93 w93 ⟨rfl, e93⟩
      replace E := Ext.trans E e93
      replace r10 := r10.ext (REnc.firm _) e93
      replace r11 := r11.ext (REnc.firm _) e93
      replace r12 := r12.ext (REnc.firm _) e93
      replace rx := rx.ext (REnc.firm _) e93
      replace rl := rl.ext (REnc.firm _) e93
      replace ry := ry.ext (REnc.firm _) e93
      refine St.r (Runs.lit (c := true) (R.assign rfl) (decide_eq_true rfl)) rfl rfl ?_
      refine St.nil ?_
      refine St.weak [(1, _), (2, _), (18, _), (19, _), (20, _), (22, _), (23, _)] ⟨rfl, rfl, rfl, rfl, rfl, rfl, rfl, trivial⟩ ?_
      refine St.then_n ?_
      refine St.go hK14 ?_
      clear hK14
      refine St.seq fun K15 hK15 => ?_
      refine St.region ?_
      refine St.r (R.move rfl) rfl rfl ?_
      refine St.r (R.move rfl) rfl rfl ?_
      refine St.call rfl rfl ent32 (rTwo_ret _ (h1.ext (REnc.firm _) E) (h2.ext (REnc.firm _) E)) rfl ?_
      rintro r96 w96 ⟨rfl, e96⟩
      replace E := Ext.trans E e96
      replace r10 := r10.ext (REnc.firm _) e96
      replace r11 := r11.ext (REnc.firm _) e96
      replace r12 := r12.ext (REnc.firm _) e96
      replace rx := rx.ext (REnc.firm _) e96
      replace rl := rl.ext (REnc.firm _) e96
      replace ry := ry.ext (REnc.firm _) e96
      refine St.r (R.assign rfl) rfl rfl ?_
      refine St.nil ?_
      refine St.weak [(1, _), (2, _), (9, _), (18, _), (19, _), (20, _), (22, _), (23, _)] ⟨rfl, rfl, rfl, rfl, rfl, rfl, rfl, rfl, trivial⟩ ?_
      refine St.then_n ?_
      refine St.go hK15 ?_
      clear hK15
      refine St.seq fun K16 hK16 => ?_
      refine St.region ?_
      refine St.r (R.assign rfl) rfl rfl ?_
      refine St.nil ?_
      refine St.weak [(1, _), (2, _), (9, _), (18, _), (19, _), (20, _), (22, _), (23, _), (24, _)] ⟨rfl, rfl, rfl, rfl, rfl, rfl, rfl, rfl, rfl, trivial⟩ ?_
      refine St.then_n ?_
      refine St.go hK16 ?_
      clear hK16
      refine St.seqJ (fun (x : List Clash × Value) => match x with | (kd, v24) => [(1, v1), (2, v2), (9, .int .i64 (wrongI (rightErr [a, b]))), (18, .bool true), (19, .bool true), (20, .bool true), (22, .bool true), (23, .bool true), (24, v24)])
          (fun (x : List Clash × Value) w => match x with | (kd, v24) => Ext w0 w ∧ (rightErr [a, b] = none → IsPairs [a, b] kd) ∧ RClashes w v24 (if (rightErr [a, b]).isSome then [] else diffL a b kd)) ?_ ?_
      · rintro ⟨kd, v24⟩ w ⟨E, hkd, r24⟩
        show St _ _ [(1, v1), (2, v2), (9, .int .i64 (wrongI (rightErr [a, b]))), (18, .bool true), (19, .bool true), (20, .bool true), (22, .bool true), (23, .bool true), (24, v24)] _ _
        refine St.seq fun K18 hK18 => ?_
        refine St.region ?_
        refine St.r (R.move rfl) rfl rfl ?_
        refine St.r (R.move rfl) rfl rfl ?_
        refine St.call rfl rfl ent39 (PairsD_ret _ (h1.ext (REnc.firm _) E) (h2.ext (REnc.firm _) E)) rfl ?_
        rintro r105 w105 ⟨z, kd2, rfl, hkd2, rz, e105⟩
        replace E := Ext.trans E e105
        replace r24 := r24.ext (REnc.firm _) e105
        rw [diff_ks hkd2 hkd] at rz
        refine St.r (R.move rfl) rfl rfl ?_
        refine St.r (R.extract rfl rfl) rfl rfl ?_
        refine St.r (R.extract rfl rfl) rfl rfl ?_
        refine St.r (R.assign rfl) rfl rfl ?_
        refine St.r (R.assign rfl) rfl rfl ?_
        refine St.nil ?_
        refine St.weak [(9, _), (17, _), (18, _), (19, _), (20, _), (22, _), (23, _), (24, _), (25, _)] ⟨rfl, rfl, rfl, rfl, rfl, rfl, rfl, rfl, rfl, trivial⟩ ?_
        refine St.then_n ?_
        refine St.go hK18 ?_
        clear hK18
        refine St.seq fun K19 hK19 => ?_
        refine St.region ?_
        refine St.r (R.move rfl) rfl rfl ?_
        refine St.r (R.move rfl) rfl rfl ?_
        refine St.call rfl rfl ent11 (Error_ret _ (hg.ext E)) rfl ?_
        rintro r110 w110 ⟨rfl, e110⟩
        replace E := Ext.trans E e110
        replace r24 := r24.ext (REnc.firm _) e110
        replace rz := rz.ext (REnc.firm _) e110
        refine St.r (Runs.lit (c := true) (R.assign rfl) (decide_eq_true rfl)) rfl rfl ?_
        refine St.nil ?_
        refine St.weak [(18, _), (19, _), (20, _), (22, _), (23, _), (24, _), (25, _), (26, _)] ⟨rfl, rfl, rfl, rfl, rfl, rfl, rfl, rfl, trivial⟩ ?_
        refine St.then_n ?_
        refine St.go hK19 ?_
        clear hK19
        refine St.seq fun K20 hK20 => ?_
        refine St.region ?_
        refine St.r (R.move rfl) rfl rfl ?_
        refine St.r (R.move rfl) rfl rfl ?_
        refine St.call rfl rfl ent36 (sClashes_ret _ rz r24) rfl ?_
        rintro r113 w113 ⟨rfl, e113⟩
        replace E := Ext.trans E e113
        replace r24 := r24.ext (REnc.firm _) e113
        replace rz := rz.ext (REnc.firm _) e113
        refine St.r (Runs.lit (c := true) (R.assign rfl) (decide_eq_true rfl)) rfl rfl ?_
        refine St.nil ?_
        refine St.weak [(18, _), (19, _), (20, _), (22, _), (23, _), (26, _), (27, _)] ⟨rfl, rfl, rfl, rfl, rfl, rfl, rfl, trivial⟩ ?_
        refine St.then_n ?_
        refine St.go hK20 ?_
        clear hK20
        refine St.seq fun K21 hK21 => ?_
        refine St.region ?_
        refine St.r (R.move rfl) rfl rfl ?_
        refine St.r (Runs.lit (c := true) (R.move rfl) (rfl)) rfl rfl ?_
        refine St.take (dg := 115) rfl rfl ?_ rfl
        refine St.r (Runs.lit (c := true) (R.move rfl) (rfl)) rfl rfl ?_
        refine St.r (R.pickT rfl rfl) rfl rfl ?_
        refine St.r (R.move rfl) rfl rfl ?_
        refine St.take (dg := 118) rfl rfl ?_ rfl
        refine St.r (Runs.lit (c := true) (R.move rfl) (rfl)) rfl rfl ?_
        refine St.r (R.pickT rfl rfl) rfl rfl ?_
        refine St.r (R.move rfl) rfl rfl ?_
        refine St.take (dg := 121) rfl rfl ?_ rfl
        refine St.r (Runs.lit (c := true) (R.move rfl) (rfl)) rfl rfl ?_
        refine St.r (R.pickT rfl rfl) rfl rfl ?_
        refine St.r (R.move rfl) rfl rfl ?_
        refine St.take (dg := 124) rfl rfl ?_ rfl
        refine St.r (Runs.lit (c := true) (R.move rfl) (rfl)) rfl rfl ?_
        refine St.r (R.pickT rfl rfl) rfl rfl ?_
        refine St.r (R.move rfl) rfl rfl ?_
        refine St.take (dg := 127) rfl rfl ?_ rfl
        refine St.r (Runs.lit (c := true) (R.move rfl) (rfl)) rfl rfl ?_
        refine St.r (R.pickT rfl rfl) rfl rfl ?_
        refine St.r (R.move rfl) rfl rfl ?_
        refine St.take (dg := 130) rfl rfl ?_ rfl
        refine St.r (Runs.lit (c := true) (R.move rfl) (rfl)) rfl rfl ?_
        refine St.r (R.pickT rfl rfl) rfl rfl ?_
        refine St.r (R.assign rfl) rfl rfl ?_
        refine St.nil ?_
        refine St.weak [(8, _)] ⟨rfl, trivial⟩ ?_
        refine St.then_n ?_
        refine St.go hK21 ?_
        clear hK21
        refine St.ret ?_
        refine St.ret1 Tryz.results5 rfl ?_
        exact ⟨_, rfl, rfl, E⟩
      intro K17 hK17
      refine St.seq fun K22 hK22 => ?_
      refine St.region ?_
      refine St.r (R.move rfl) rfl rfl ?_
      refine St.r (R.eql rfl rfl) rfl rfl ?_
      refine St.nil ?_
      refine St.weak [(1, _), (2, _), (9, _), (18, _), (19, _), (20, _), (22, _), (23, _), (24, _), (98, _)] ⟨rfl, rfl, rfl, rfl, rfl, rfl, rfl, rfl, rfl, rfl, trivial⟩ ?_
      refine St.then_n ?_
      refine St.go hK22 ?_
      clear hK22
      refine St.condD rfl (fun h98 => ?_) (fun h98 => ?_)
      ·
        have hR2 := rightErr_0.1 h98
        have f1 := (right_all hR2 a (by simp)).few
        have f2 := (right_all hR2 b (by simp)).few
        refine St.region ?_
        refine St.r (R.move rfl) rfl rfl ?_
        refine St.r (R.move rfl) rfl rfl ?_
        refine St.call rfl rfl ent38 (rPairsD_ret _ (h1.ext (REnc.firm _) E) (h2.ext (REnc.firm _) E) (by omega) (by omega)) rfl ?_
        rintro r101 w101 ⟨ksd, hIPd, od, e101⟩
        replace E := Ext.trans E e101
        replace r10 := r10.ext (REnc.firm _) e101
        replace r11 := r11.ext (REnc.firm _) e101
        replace r12 := r12.ext (REnc.firm _) e101
        replace rx := rx.ext (REnc.firm _) e101
        replace rl := rl.ext (REnc.firm _) e101
        replace ry := ry.ext (REnc.firm _) e101
        refine St.r (R.assign rfl) rfl rfl ?_
        refine St.nil ?_
        refine St.weak [(1, _), (2, _), (9, _), (18, _), (19, _), (20, _), (22, _), (23, _), (24, _)] ⟨rfl, rfl, rfl, rfl, rfl, rfl, rfl, rfl, rfl, trivial⟩ ?_
        refine St.then_n ?_
        refine St.meet hK17 (ksd, _) ⟨rfl, rfl, rfl, rfl, rfl, rfl, rfl, rfl, rfl, trivial⟩ ?_
        · try dsimp only
          exact ⟨E, fun _ => hIPd, by rw [hR2, if_neg (by simp)]; exact od.reads encClash_len⟩
      ·
        obtain ⟨er2, her2⟩ : ∃ e, rightErr [a, b] = some e := by
          cases hc : rightErr [a, b] with
          | none => rw [hc] at h98; exact absurd rfl h98
          | some e => exact ⟨e, rfl⟩
        refine St.skip ?_
        refine St.then_n ?_
        refine St.meet hK17 ([], .slice none 0 0) ⟨rfl, rfl, rfl, rfl, rfl, rfl, rfl, rfl, rfl, trivial⟩ ?_
        · try dsimp only
          exact ⟨E, fun h => (by rw [h] at her2; cases her2), by rw [her2]; exact RSl.nil _ _ _⟩
    intro K7 hK7
    refine St.seq fun K23 hK23 => ?_
    refine St.region ?_
    refine St.r (R.move rfl) rfl rfl ?_
    refine St.r (R.eql rfl rfl) rfl rfl ?_
    refine St.nil ?_
    refine St.weak [(0, _), (1, _), (2, _), (3, _), (10, _), (11, _), (12, _), (13, _), (14, _), (38, _)] ⟨rfl, rfl, rfl, rfl, rfl, rfl, rfl, rfl, rfl, rfl, trivial⟩ ?_
    refine St.then_n ?_
    refine St.go hK23 ?_
    clear hK23
    refine St.condD rfl (fun h38 => ?_) (fun h38 => ?_)
    ·
      have hR := rightErr_0.1 h38
      have i0 := right_all hR base (by simp)
      have i1 := right_all hR a (by simp)
      have i2 := right_all hR b (by simp)
      have f0 := i0.few
      have f1 := i1.few
      have f2 := i2.few
      refine St.seq fun K24 hK24 => ?_
      refine St.region ?_
      refine St.r (R.move rfl) rfl rfl ?_
      refine St.r (R.move rfl) rfl rfl ?_
      refine St.r (R.move rfl) rfl rfl ?_
      refine St.call rfl rfl ent33 (rMerge_ret _ (h0.ext (REnc.firm _) E) (h1.ext (REnc.firm _) E) (h2.ext (REnc.firm _) E) (by omega) (by omega) (by omega)) rfl ?_
      rintro r43 w43 ⟨p1, q1, ks1, rfl, hIP, o10, o12, e43⟩
      replace E := Ext.trans E e43
      obtain ⟨PA, PC, rfl, -, -⟩ := o10.form
      obtain ⟨QA, QC, rfl, -, -⟩ := o12.form
      refine St.r (R.move rfl) rfl rfl ?_
      refine St.r (R.extract rfl rfl) rfl rfl ?_
      refine St.r (R.extract rfl rfl) rfl rfl ?_
      refine St.r (R.assign rfl) rfl rfl ?_
      refine St.r (R.assign rfl) rfl rfl ?_
      refine St.nil ?_
      refine St.weak [(0, _), (1, _), (2, _), (3, _), (10, _), (12, _), (13, _), (14, _)] ⟨rfl, rfl, rfl, rfl, rfl, rfl, rfl, rfl, trivial⟩ ?_
      refine St.then_n ?_
      refine St.go hK24 ?_
      clear hK24
      refine St.seq fun K25 hK25 => ?_
      refine St.region ?_
      refine St.r (R.move rfl) rfl rfl ?_
      refine St.r (R.move rfl) rfl rfl ?_
      refine St.r (R.move rfl) rfl rfl ?_
      refine St.r (R.move rfl) rfl rfl ?_
      refine St.call rfl rfl ent33 (rMerge_ret _ (h0.ext (REnc.firm _) E) (h1.ext (REnc.firm _) E) (h2.ext (REnc.firm _) E) (by omega) (by omega) (by omega)) rfl ?_
      rintro r51 w51 ⟨p2, q2, ks2, rfl, hIP2, o11, oq, e51⟩
      replace E := Ext.trans E e51
      replace o10 := o10.ext e51
      replace o12 := o12.ext e51
      obtain rfl := hIP.uniq hIP2
      obtain ⟨PA2, PC2, rfl, -, -⟩ := o11.form
      refine St.r (R.move rfl) rfl rfl ?_
      refine St.r (R.extract rfl rfl) rfl rfl ?_
      refine St.r (R.extract rfl rfl) rfl rfl ?_
      refine St.r (R.assign rfl) rfl rfl ?_
      refine St.nil ?_
      refine St.weak [(0, _), (1, _), (2, _), (3, _), (10, _), (11, _), (12, _), (13, _), (14, _)] ⟨rfl, rfl, rfl, rfl, rfl, rfl, rfl, rfl, rfl, trivial⟩ ?_
      refine St.then_n ?_
      refine St.go hK25 ?_
      clear hK25
      refine St.seqJ (fun (v10 : Value) => [(0, v0), (1, v1), (2, v2), (3, .bool first), (10, v10), (11, .slice PA2 (outL base a b first ks1).length PC2), (12, .slice QA (clashL base a b ks1).length QC), (13, .int .i64 (wrongI (mergeL base a b ks1).2.2)), (14, .int .i64 (wrongI (rightErr [base, a, b])))])
          (fun (v10 : Value) w => Ext w0 w ∧ RTriples w v10 (mergeL base a b ks1).1 ∧ RTriples w (.slice PA2 (outL base a b first ks1).length PC2) (outL base a b first ks1) ∧ RClashes w (.slice QA (clashL base a b ks1).length QC) (mergeL base a b ks1).2.1) ?_ ?_
      · rintro v10 w ⟨E, r10, r11, r12⟩
        show St _ _ [(0, v0), (1, v1), (2, v2), (3, .bool first), (10, v10), (11, .slice PA2 (outL base a b first ks1).length PC2), (12, .slice QA (clashL base a b ks1).length QC), (13, .int .i64 (wrongI (mergeL base a b ks1).2.2)), (14, .int .i64 (wrongI (rightErr [base, a, b])))] _ _
        refine St.seq fun K27 hK27 => ?_
        refine St.region ?_
        refine St.r (R.move rfl) rfl rfl ?_
        refine St.r (R.lenSl Tryz.underlying22 rfl) rfl rfl ?_
        refine St.r (R.gtr rfl rfl) rfl rfl ?_
        refine St.nil ?_
        refine St.weak [(0, _), (1, _), (2, _), (3, _), (10, _), (11, _), (12, _), (13, _), (14, _), (62, _)] ⟨rfl, rfl, rfl, rfl, rfl, rfl, rfl, rfl, rfl, rfl, trivial⟩ ?_
        refine St.then_n ?_
        refine St.go hK27 ?_
        clear hK27
        refine St.condD rfl (fun h62 => ?_) (fun h62 => ?_)
        ·
          refine St.seq fun K28 hK28 => ?_
          refine St.region ?_
          refine St.r (R.assign rfl) rfl rfl ?_
          refine St.nil ?_
          refine St.weak [(0, _), (1, _), (2, _), (3, _), (10, _), (12, _), (13, _), (14, _)] ⟨rfl, rfl, rfl, rfl, rfl, rfl, rfl, rfl, trivial⟩ ?_
          refine St.then_n ?_
          refine St.go hK28 ?_
          clear hK28
          refine St.region ?_
          refine St.r (R.assign rfl) rfl rfl ?_
          refine St.nil ?_
          refine St.weak [(0, _), (1, _), (2, _), (3, _), (10, _), (11, _), (12, _), (13, _), (14, _)] ⟨rfl, rfl, rfl, rfl, rfl, rfl, rfl, rfl, rfl, trivial⟩ ?_
          refine St.then_n ?_
          refine St.meet hK7 (ks1, v10, .slice none 0 0, _) ⟨rfl, rfl, rfl, rfl, rfl, rfl, rfl, rfl, (look_int rfl (by simp only [preferL, hR]; rw [if_pos (by omega)]; rfl)), trivial⟩ ?_
          · try dsimp only
            have hpg : preferL base a b first ks1 = ([], some 4) := by simp only [preferL, hR]; rw [if_pos (by omega)]
            exact ⟨E, fun _ => hIP, r10, by rw [hpg]; exact RSl.nil _ _ _, r12⟩
        ·
          refine St.skip ?_
          refine St.then_n ?_
          refine St.meet hK7 (ks1, v10, _, _) ⟨rfl, rfl, rfl, rfl, rfl, rfl, rfl, rfl, (look_int rfl (by rw [h38]; simp only [preferL, hR]; rw [if_neg (by omega)]; rfl)), trivial⟩ ?_
          · try dsimp only
            have hpg : preferL base a b first ks1 = (outL base a b first ks1, none) := by simp only [preferL, hR]; rw [if_neg (by omega)]
            exact ⟨E, fun _ => hIP, r10, by rw [hpg]; exact r11, r12⟩
      intro K26 hK26
      refine St.seq fun K29 hK29 => ?_
      refine St.region ?_
      refine St.r (R.move rfl) rfl rfl ?_
      refine St.r (R.lenSl Tryz.underlying73 rfl) rfl rfl ?_
      refine St.r (R.gtr rfl rfl) rfl rfl ?_
      refine St.nil ?_
      refine St.weak [(0, _), (1, _), (2, _), (3, _), (10, _), (11, _), (12, _), (13, _), (14, _), (56, _)] ⟨rfl, rfl, rfl, rfl, rfl, rfl, rfl, rfl, rfl, rfl, trivial⟩ ?_
      refine St.then_n ?_
      refine St.go hK29 ?_
      clear hK29
      refine St.condD rfl (fun h56 => ?_) (fun h56 => ?_)
      ·
        refine St.seq fun K30 hK30 => ?_
        refine St.region ?_
        refine St.r (R.assign rfl) rfl rfl ?_
        refine St.nil ?_
        refine St.weak [(0, _), (1, _), (2, _), (3, _), (11, _), (12, _), (13, _), (14, _)] ⟨rfl, rfl, rfl, rfl, rfl, rfl, rfl, rfl, trivial⟩ ?_
        refine St.then_n ?_
        refine St.go hK30 ?_
        clear hK30
        refine St.region ?_
        refine St.r (R.assign rfl) rfl rfl ?_
        refine St.nil ?_
        refine St.weak [(0, _), (1, _), (2, _), (3, _), (10, _), (11, _), (12, _), (13, _), (14, _)] ⟨rfl, rfl, rfl, rfl, rfl, rfl, rfl, rfl, rfl, trivial⟩ ?_
        refine St.then_n ?_
        refine St.meet hK26 (.slice none 0 0) ⟨rfl, rfl, rfl, rfl, rfl, rfl, rfl, (look_int rfl (by rw [mergeL_right hR, if_pos (by omega)]; rfl)), rfl, trivial⟩ ?_
        · have hmg : mergeL base a b ks1 = ([], clashL base a b ks1, some 9) := by rw [mergeL_right hR]; rw [if_pos (by omega)]
          exact ⟨E, by rw [hmg]; exact RSl.nil _ _ _, o11.reads encTriple_len, by rw [hmg]; exact o12.reads encClash_len⟩
      ·
        refine St.seq fun K31 hK31 => ?_
        refine St.region ?_
        refine St.r (R.move rfl) rfl rfl ?_
        refine St.r (R.lenSl Tryz.underlying22 rfl) rfl rfl ?_
        refine St.r (R.gtr rfl rfl) rfl rfl ?_
        refine St.nil ?_
        refine St.weak [(0, _), (1, _), (2, _), (3, _), (10, _), (11, _), (12, _), (13, _), (14, _), (59, _)] ⟨rfl, rfl, rfl, rfl, rfl, rfl, rfl, rfl, rfl, rfl, trivial⟩ ?_
        refine St.then_n ?_
        refine St.go hK31 ?_
        clear hK31
        refine St.condD rfl (fun h59 => ?_) (fun h59 => ?_)
        ·
          refine St.seq fun K32 hK32 => ?_
          refine St.region ?_
          refine St.r (R.assign rfl) rfl rfl ?_
          refine St.nil ?_
          refine St.weak [(0, _), (1, _), (2, _), (3, _), (11, _), (12, _), (13, _), (14, _)] ⟨rfl, rfl, rfl, rfl, rfl, rfl, rfl, rfl, trivial⟩ ?_
          refine St.then_n ?_
          refine St.go hK32 ?_
          clear hK32
          refine St.region ?_
          refine St.r (R.assign rfl) rfl rfl ?_
          refine St.nil ?_
          refine St.weak [(0, _), (1, _), (2, _), (3, _), (10, _), (11, _), (12, _), (13, _), (14, _)] ⟨rfl, rfl, rfl, rfl, rfl, rfl, rfl, rfl, rfl, trivial⟩ ?_
          refine St.then_n ?_
          refine St.meet hK26 (.slice none 0 0) ⟨rfl, rfl, rfl, rfl, rfl, rfl, rfl, (look_int rfl (by rw [mergeL_right hR, if_neg (by omega), if_pos (by omega)]; rfl)), rfl, trivial⟩ ?_
          · have hmg : mergeL base a b ks1 = ([], [], some 4) := by rw [mergeL_right hR]; rw [if_neg (by omega), if_pos (by omega)]
            have hcl : clashL base a b ks1 = [] := List.eq_nil_of_length_eq_zero (by omega)
            exact ⟨E, by rw [hmg]; exact RSl.nil _ _ _, o11.reads encTriple_len, by rw [hmg]; have := o12.reads encClash_len; rw [hcl] at this ⊢; exact this⟩
        ·
          refine St.skip ?_
          refine St.then_n ?_
          refine St.meet hK26 (.slice PA (outL base a b true ks1).length PC) ⟨rfl, rfl, rfl, rfl, rfl, rfl, rfl, (look_int rfl (by rw [h38, mergeL_right hR, if_neg (by omega), if_neg (by omega)]; rfl)), rfl, trivial⟩ ?_
          · have hmg : mergeL base a b ks1 = (outL base a b true ks1, [], none) := by rw [mergeL_right hR]; rw [if_neg (by omega), if_neg (by omega)]
            have hcl : clashL base a b ks1 = [] := List.eq_nil_of_length_eq_zero (by omega)
            exact ⟨E, by rw [hmg]; exact o10.reads encTriple_len, o11.reads encTriple_len, by rw [hmg]; have := o12.reads encClash_len; rw [hcl] at this ⊢; exact this⟩
    ·
      obtain ⟨er, her⟩ : ∃ e, rightErr [base, a, b] = some e := by
        cases hc : rightErr [base, a, b] with
        | none => rw [hc] at h38; exact absurd rfl h38
        | some e => exact ⟨e, rfl⟩
      refine St.skip ?_
      refine St.then_n ?_
      refine St.meet hK7 ([], .slice none 0 0, .slice none 0 0, .slice none 0 0) ⟨rfl, rfl, rfl, rfl, rfl, rfl, rfl, (look_int rfl (by simp only [mergeL, her])), (look_int rfl (by simp only [preferL, her])), trivial⟩ ?_
      · try dsimp only
        have hmg : mergeL base a b [] = ([], [], some er) := by simp only [mergeL, her]
        have hpg : preferL base a b first [] = ([], some er) := by simp only [preferL, her]
        exact ⟨E, fun h => (by rw [h] at her; cases her), by rw [hmg]; exact RSl.nil _ _ _, by rw [hpg]; exact RSl.nil _ _ _, by rw [hmg]; exact RSl.nil _ _ _⟩
  intro K2 hK2
  refine St.seq fun K33 hK33 => ?_
  refine St.region ?_
  refine St.r (R.move rfl) rfl rfl ?_
  refine St.r (R.eql rfl rfl) rfl rfl ?_
  refine St.nil ?_
  refine St.weak [(0, _), (1, _), (2, _), (3, _), (9, _), (32, _)] ⟨rfl, rfl, rfl, rfl, rfl, rfl, trivial⟩ ?_
  refine St.then_n ?_
  refine St.go hK33 ?_
  clear hK33
  refine St.condD rfl (fun h32 => ?_) (fun h32 => ?_)
  ·
    refine St.region ?_
    refine St.r (R.move rfl) rfl rfl ?_
    refine St.call rfl rfl ent7 (rSet_ret _ (h2.ext (REnc.firm _) E)) rfl ?_
    rintro r34 w34 ⟨rfl, e34⟩
    replace E := Ext.trans E e34
    refine St.r (R.assign rfl) rfl rfl ?_
    refine St.nil ?_
    refine St.weak [(0, _), (1, _), (2, _), (3, _), (9, _)] ⟨rfl, rfl, rfl, rfl, rfl, trivial⟩ ?_
    refine St.then_n ?_
    refine St.meet hK2 () ⟨rfl, rfl, rfl, rfl, (look_int rfl (by rw [wrong_right3, if_pos h32])), trivial⟩ ?_
    · exact E
  ·
    refine St.skip ?_
    refine St.then_n ?_
    refine St.meet hK2 () ⟨rfl, rfl, rfl, rfl, (look_int rfl (by rw [wrong_right3, if_neg h32])), trivial⟩ ?_
    · exact E

end Go.Proofs.YtjgcmpondbocfaaGreatDoor
