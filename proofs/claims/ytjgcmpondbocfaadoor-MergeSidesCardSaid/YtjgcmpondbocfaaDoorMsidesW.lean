/- The law MergeSides walked: whatever it reads, it comes to true. Under the reading of the arguments; the variable errors.errorType holds the handle of the type error. -/
import Derived.Test.YtjgcmpondbocfaaDoorProg
import Derived.Test.YtjgcmpondbocfaaDoorMmergeW
import Derived.Test.YtjgcmpondbocfaaDoorRef1W
import Derived.Test.YtjgcmpondbocfaaDoorSameW
import Derived.Test.YtjgcmpondbocfaaDoorMergeLaw
import Derived.Test.YtjgcmpondbocfaaDoorErrs
namespace Go.Proofs.YtjgcmpondbocfaaDoor
open Go.RowKit 
theorem ent8 : Ent Tryd.prog 8 := Ent.of Tryd.func8 (by kernel_rfl) rfl
theorem ent28 : Ent Tryd.prog 28 := Ent.of Tryd.func28 (by kernel_rfl) rfl
theorem ent29 : Ent Tryd.prog 29 := Ent.of Tryd.func29 (by kernel_rfl) rfl
theorem ent30 : Ent Tryd.prog 30 := Ent.of Tryd.func30 (by kernel_rfl) rfl
theorem ent32 : Ent Tryd.prog 32 := Ent.of Tryd.func32 (by kernel_rfl) rfl
theorem ent33 : Ent Tryd.prog 33 := Ent.of Tryd.func33 (by kernel_rfl) rfl
theorem places66 : ∀ fs, Tryd.prog.underlying 66 = some (.struct fs) → Places Tryd.prog fs [(0, 1), (1, 1), (2, 1)] := by
  intro fs h
  rw [Tryd.underlying66] at h
  cases h
  intro w
  simp [go_sem, Tryd.sizeOf3, Tryd.sizeOf9]
theorem places68 : ∀ fs, Tryd.prog.underlying 68 = some (.struct fs) → Places Tryd.prog fs [(0, 3), (3, 3), (6, 3)] := by
  intro fs h
  rw [Tryd.underlying68] at h
  cases h
  intro w
  simp [go_sem, Tryd.sizeOf66]

theorem isSet_nil : IsSet [] := ⟨by simp, by simp, List.Pairwise.nil⟩
def XT : Triple := ⟨⟨1, ⟨#[97]⟩, ⟨#[]⟩⟩, ⟨1, ⟨#[98]⟩, ⟨#[]⟩⟩, ⟨1, ⟨#[99]⟩, ⟨#[]⟩⟩⟩
theorem isSet_X : IsSet [XT] := ⟨by simp, by intro t ht; rw [List.mem_singleton] at ht; subst ht; decide +kernel, List.pairwise_singleton _ _⟩
theorem not_set {l : List Triple} (h : (setErr l).isSome = true) : ¬ IsSet l := fun hs => by rw [setErr_iff.2 hs] at h; cases h

set_option maxHeartbeats 4000000 in
set_option maxRecDepth 100000 in
theorem MergeSides_ret {base a b : List Triple} {v0 v1 v2 : Value} (w0 : World) (hg : ErrType w0) (h0 : RTriples w0 v0 base) (h1 : RTriples w0 v1 a) (h2 : RTriples w0 v2 b) : Ret Tryd.prog 5 [v0, v1, v2] w0 fun r w' => r = .bool true ∧ Ext w0 w' := by
  have E : Ext w0 w0 := Ext.refl w0
  refine St.enter (N := 185) Tryd.func5 rfl Tryd.ntmps5 rfl ?_
  refine St.seq fun K0 hK0 => ?_
  refine St.region ?_
  refine St.r (R.assign rfl) rfl rfl ?_
  refine St.nil ?_
  refine St.weak [(0, _), (1, _), (2, _)] ⟨rfl, rfl, rfl, trivial⟩ ?_
  refine St.then_n ?_
  refine St.go hK0 ?_
  clear hK0
  refine St.seq fun K1 hK1 => ?_
  refine St.region ?_
  refine St.r (R.build Tryd.underlying66 (places66 _ Tryd.underlying66) Tryd.zeroValue66 rfl rfl rfl) rfl rfl ?_
  refine St.r (R.build Tryd.underlying66 (places66 _ Tryd.underlying66) Tryd.zeroValue66 rfl rfl rfl) rfl rfl ?_
  refine St.r (R.build Tryd.underlying66 (places66 _ Tryd.underlying66) Tryd.zeroValue66 rfl rfl rfl) rfl rfl ?_
  refine St.r (R.build Tryd.underlying68 (places68 _ Tryd.underlying68) Tryd.zeroValue68 rfl rfl rfl) rfl rfl ?_
  refine St.alloc Tryd.zeroValue68 rfl ?_
  intro w7 b7 hb7 hs7 e7 k7
  have qE7 := E.size
  replace E := Ext.trans E e7
  refine St.store Tryd.sizeOf68 rfl rfl k7 rfl (by simp [Value.cells]) (one_triple XT) ?_
  intro ws0 ks0 gs0 zs0
  replace E := Ext.then E gs0 (by intro j hj; omega)
  clear k7; have k7 := ks0; clear ks0
  replace k7 : Blk ws0 b7 68 (encTriple XT) := k7
  refine St.nil ?_
  refine St.weak [(0, _), (1, _), (2, _), (7, _)] ⟨rfl, rfl, rfl, rfl, trivial⟩ ?_
  refine St.then_n ?_
  refine St.go hK1 ?_
  clear hK1
  refine St.seq fun K2 hK2 => ?_
  refine St.region ?_
  refine St.r (R.loadA Tryd.isAgg68 Tryd.sizeOf68 rfl k7.cells rfl) rfl rfl ?_
  refine St.buildSl Tryd.underlying64 Tryd.sizeOf68 Tryd.zeroValue68 rfl rfl rfl rfl (by intro u hu; simp only [List.mem_cons, List.not_mem_nil, or_false] at hu; first | (subst hu; rfl) | (rcases hu with rfl | rfl <;> rfl) | (rcases hu with rfl | rfl | rfl <;> rfl) | (rcases hu with rfl | rfl | rfl | rfl <;> rfl)) rfl ?_
  intro w37 b37 hb37 hs37 e37 k37
  have qE37 := E.size
  replace E := Ext.trans E e37
  replace k7 := k7.ext e37
  refine St.call rfl rfl ent28 (Merge_ret _ (RSl.nil _ _ _) (RSl.mk (enc := encTriple) (xs := [XT]) encTriple_len k37.cells (fun i u hu => hu) (by simp) (by simp)) (RSl.nil _ _ _)) rfl ?_
  rintro r38 w38 ⟨x1, l1, kx, rfl, hp1, rx1, rl1, e38⟩
  replace E := Ext.trans E e38
  replace k7 := k7.ext e38
  have hm1 := merge_same isSet_nil isSet_X hp1
  rw [hm1] at rx1 ⊢
  obtain ⟨XA, XC, rfl, -, -⟩ := rx1.form
  obtain ⟨xb, xo, rfl, hxc1⟩ := rx1.get' (k := 0) rfl
  refine St.r (R.move rfl) rfl rfl ?_
  refine St.r (R.extract rfl rfl) rfl rfl ?_
  refine St.r (R.extract rfl rfl) rfl rfl ?_
  refine St.r (R.extract rfl rfl) rfl rfl ?_
  refine St.r (R.assign rfl) rfl rfl ?_
  refine St.r (R.assign rfl) rfl rfl ?_
  refine St.r (R.assign rfl) rfl rfl ?_
  refine St.nil ?_
  refine St.weak [(0, _), (1, _), (2, _), (7, _), (8, _), (10, _)] ⟨rfl, rfl, rfl, rfl, rfl, rfl, trivial⟩ ?_
  refine St.then_n ?_
  refine St.go hK2 ?_
  clear hK2
  refine St.seq fun K3 hK3 => ?_
  refine St.seq fun K4 hK4 => ?_
  refine St.weak [(0, _), (1, _), (2, _), (7, _), (8, _), (10, _)] ⟨rfl, rfl, rfl, rfl, rfl, rfl, trivial⟩ ?_
  refine St.draw mixed rfl rfl rfl rfl ?_
  replace E := Ext.trans E (Ext.drew _)
  replace k7 := k7.ext (Ext.drew _)
  replace rx1 := rx1.ext (REnc.firm _) (Ext.drew _)
  refine ⟨_, OpOk.r (R.move rfl) rfl, ?_⟩
  refine ⟨_, OpOk.r (Runs.lit (c := false) (R.notNil (et := 81) (e := _) Tryd.underlying26 rfl) (rfl)) rfl, ?_⟩
  refine ⟨_, OpOk.r (R.move rfl) rfl, ?_⟩
  refine ⟨_, OpOk.take (dg := 44) (R.move rfl) rfl rfl rfl rfl, ?_⟩
  refine ⟨_, OpOk.take (dg := 44) (R.lenSl Tryd.underlying64 rfl) rfl rfl rfl rfl, ?_⟩
  refine ⟨_, OpOk.take (dg := 44) (Runs.lit (c := false) (R.neq rfl rfl) (decide_eq_false (by simp))) rfl rfl rfl rfl, ?_⟩
  refine ⟨_, OpOk.r (R.pickF rfl rfl) rfl, ?_⟩
  refine ⟨_, OpOk.r (R.move rfl) rfl, ?_⟩
  refine ⟨_, OpOk.take (dg := 49) (R.move rfl) rfl rfl rfl rfl, ?_⟩
  refine ⟨_, OpOk.take (dg := 49) (R.indexS 0 Tryd.underlying64 Tryd.sizeOf68 rfl rfl rfl (by simp)) rfl rfl rfl rfl, ?_⟩
  refine ⟨_, OpOk.take (dg := 49) (R.loadA Tryd.isAgg68 Tryd.sizeOf68 rfl (rx1.get (k := 0) rfl) rfl) rfl rfl rfl rfl, ?_⟩
  refine ⟨_, OpOk.take (dg := 49) (R.loadA Tryd.isAgg68 Tryd.sizeOf68 rfl k7.cells rfl) rfl rfl rfl rfl, ?_⟩
  refine ⟨_, OpOk.take (dg := 49) (Runs.lit (c := false) (R.neAgg Tryd.eqGuardType68 (eqTriple XT XT) rfl rfl) (by simp)) rfl rfl rfl rfl, ?_⟩
  refine ⟨_, OpOk.r (R.pickF rfl rfl) rfl, ?_⟩
  show St _ _ _ _ _
  refine St.weak [(0, _), (1, _), (2, _), (55, _)] ⟨rfl, rfl, rfl, rfl, trivial⟩ ?_
  refine St.then_n ?_
  refine St.go hK4 ?_
  clear hK4
  refine St.condF rfl ?_
  refine St.skip ?_
  refine St.then_n ?_
  refine St.go hK3 ?_
  clear hK3
  refine St.seq fun K5 hK5 => ?_
  refine St.region ?_
  refine St.r (R.move rfl) rfl rfl ?_
  refine St.r (R.move rfl) rfl rfl ?_
  refine St.r (R.move rfl) rfl rfl ?_
  refine St.call rfl rfl ent28 (Merge_ret _ (h0.ext (REnc.firm _) E) (h1.ext (REnc.firm _) E) (h2.ext (REnc.firm _) E)) rfl ?_
  rintro r60 w60 ⟨m, k, ks1, rfl, hpm, rm, rk, e60⟩
  replace E := Ext.trans E e60
  replace k7 := k7.ext e60
  replace rx1 := rx1.ext (REnc.firm _) e60
  obtain ⟨MA, MZ, rfl, -, -⟩ := rm.form
  obtain ⟨KA, KC, rfl, -, -⟩ := rk.form
  refine St.r (R.move rfl) rfl rfl ?_
  refine St.r (R.extract rfl rfl) rfl rfl ?_
  refine St.r (R.extract rfl rfl) rfl rfl ?_
  refine St.r (R.extract rfl rfl) rfl rfl ?_
  refine St.r (R.assign rfl) rfl rfl ?_
  refine St.r (R.assign rfl) rfl rfl ?_
  refine St.r (R.assign rfl) rfl rfl ?_
  refine St.nil ?_
  refine St.weak [(0, _), (1, _), (2, _), (11, _), (12, _), (13, _)] ⟨rfl, rfl, rfl, rfl, rfl, rfl, trivial⟩ ?_
  refine St.then_n ?_
  refine St.go hK5 ?_
  clear hK5
  refine St.seq fun K6 hK6 => ?_
  refine St.region ?_
  refine St.r (R.move rfl) rfl rfl ?_
  refine St.r (R.move rfl) rfl rfl ?_
  refine St.r (R.move rfl) rfl rfl ?_
  refine St.call rfl rfl ent28 (Merge_ret _ (h0.ext (REnc.firm _) E) (h2.ext (REnc.firm _) E) (h1.ext (REnc.firm _) E)) rfl ?_
  rintro r68 w68 ⟨n, l, ks2, rfl, hpn, rn, rl, e68⟩
  replace E := Ext.trans E e68
  replace rm := rm.ext (REnc.firm _) e68
  replace rk := rk.ext (REnc.firm _) e68
  obtain ⟨hc1, hc2, hc3⟩ := merge_comm hpm hpn
  refine St.r (R.move rfl) rfl rfl ?_
  refine St.r (R.extract rfl rfl) rfl rfl ?_
  refine St.r (R.extract rfl rfl) rfl rfl ?_
  refine St.r (R.extract rfl rfl) rfl rfl ?_
  refine St.r (R.assign rfl) rfl rfl ?_
  refine St.r (R.assign rfl) rfl rfl ?_
  refine St.r (R.assign rfl) rfl rfl ?_
  refine St.nil ?_
  refine St.weak [(0, _), (1, _), (2, _), (11, _), (12, _), (13, _), (14, _), (15, _), (16, _)] ⟨rfl, rfl, rfl, rfl, rfl, rfl, rfl, rfl, rfl, trivial⟩ ?_
  refine St.then_n ?_
  refine St.go hK6 ?_
  clear hK6
  refine St.seq fun K7 hK7 => ?_
  refine St.region ?_
  refine St.r (R.move rfl) rfl rfl ?_
  refine St.r (R.move rfl) rfl rfl ?_
  refine St.call rfl rfl ent29 (sTriples_ret _ rm rn) rfl ?_
  rintro r74 w74 ⟨rfl, e74⟩
  replace E := Ext.trans E e74
  replace rm := rm.ext (REnc.firm _) e74
  replace rk := rk.ext (REnc.firm _) e74
  replace rn := rn.ext (REnc.firm _) e74
  replace rl := rl.ext (REnc.firm _) e74
  refine St.r (R.assign rfl) rfl rfl ?_
  refine St.nil ?_
  refine St.weak [(0, _), (1, _), (2, _), (11, _), (12, _), (13, _), (15, _), (16, _), (17, _)] ⟨rfl, rfl, rfl, rfl, rfl, rfl, rfl, rfl, rfl, trivial⟩ ?_
  refine St.then_n ?_
  refine St.go hK7 ?_
  clear hK7
  refine St.seq fun K8 hK8 => ?_
  refine St.region ?_
  refine St.r (R.move rfl) rfl rfl ?_
  refine St.r (R.move rfl) rfl rfl ?_
  refine St.call rfl rfl ent30 (sClashes_ret _ rk rl) rfl ?_
  rintro r77 w77 ⟨rfl, e77⟩
  replace E := Ext.trans E e77
  replace rm := rm.ext (REnc.firm _) e77
  replace rk := rk.ext (REnc.firm _) e77
  replace rn := rn.ext (REnc.firm _) e77
  replace rl := rl.ext (REnc.firm _) e77
  refine St.r (R.assign rfl) rfl rfl ?_
  refine St.nil ?_
  refine St.weak [(0, _), (1, _), (2, _), (11, _), (12, _), (13, _), (16, _), (17, _), (18, _)] ⟨rfl, rfl, rfl, rfl, rfl, rfl, rfl, rfl, rfl, trivial⟩ ?_
  refine St.then_n ?_
  refine St.go hK8 ?_
  clear hK8
  refine St.seq fun K9 hK9 => ?_
  refine St.seq fun K10 hK10 => ?_
  refine St.weak [(0, _), (1, _), (2, _), (11, _), (12, _), (13, _), (16, _), (17, _), (18, _)] ⟨rfl, rfl, rfl, rfl, rfl, rfl, rfl, rfl, rfl, trivial⟩ ?_
  refine St.draw mixed rfl rfl rfl rfl ?_
  replace E := Ext.trans E (Ext.drew _)
  replace rm := rm.ext (REnc.firm _) (Ext.drew _)
  replace rk := rk.ext (REnc.firm _) (Ext.drew _)
  replace rn := rn.ext (REnc.firm _) (Ext.drew _)
  replace rl := rl.ext (REnc.firm _) (Ext.drew _)
  refine ⟨_, OpOk.r (R.move rfl) rfl, ?_⟩
  refine ⟨_, OpOk.r (R.isNil (et := 81) (e := _) Tryd.underlying26 rfl) rfl, ?_⟩
  refine ⟨_, OpOk.r (R.move rfl) rfl, ?_⟩
  refine ⟨_, OpOk.r (R.isNil (et := 81) (e := _) Tryd.underlying26 rfl) rfl, ?_⟩
  refine ⟨_, OpOk.r (Runs.lit (c := false) (R.neB Tryd.underlying4 rfl rfl) (by rw [hc3]; simp)) rfl, ?_⟩
  refine ⟨_, OpOk.r (R.move rfl) rfl, ?_⟩
  refine ⟨_, OpOk.take (dg := 83) (R.move rfl) rfl rfl rfl rfl, ?_⟩
  refine ⟨_, OpOk.take (dg := 83) (Runs.lit (c := false) (R.not rfl) (by rw [hc1]; simp)) rfl rfl rfl rfl, ?_⟩
  refine ⟨_, OpOk.r (R.pickF rfl rfl) rfl, ?_⟩
  refine ⟨_, OpOk.r (R.move rfl) rfl, ?_⟩
  refine ⟨_, OpOk.take (dg := 87) (R.move rfl) rfl rfl rfl rfl, ?_⟩
  refine ⟨_, OpOk.take (dg := 87) (Runs.lit (c := false) (R.not rfl) (by rw [hc2]; simp)) rfl rfl rfl rfl, ?_⟩
  refine ⟨_, OpOk.r (R.pickF rfl rfl) rfl, ?_⟩
  show St _ _ _ _ _
  refine St.weak [(0, _), (1, _), (2, _), (11, _), (12, _), (13, _), (90, _)] ⟨rfl, rfl, rfl, rfl, rfl, rfl, rfl, trivial⟩ ?_
  refine St.then_n ?_
  refine St.go hK10 ?_
  clear hK10
  refine St.condF rfl ?_
  refine St.skip ?_
  refine St.then_n ?_
  refine St.go hK9 ?_
  clear hK9
  refine St.seq fun K11 hK11 => ?_
  refine St.seq fun K12 hK12 => ?_
  rcases Bool.eq_false_or_eq_true (setErr base).isSome with hs0 | hs0
  ·
    refine St.region ?_
    refine St.r (R.move rfl) rfl rfl ?_
    refine St.call rfl rfl ent31 (Sorted_ret _ (h0.ext (REnc.firm _) E)) rfl ?_
    rintro r92 w92 ⟨rfl, e92⟩
    replace E := Ext.trans E e92
    replace rm := rm.ext (REnc.firm _) e92
    replace rk := rk.ext (REnc.firm _) e92
    replace rn := rn.ext (REnc.firm _) e92
    replace rl := rl.ext (REnc.firm _) e92
    refine St.r (Runs.lit (c := true) (R.notNil (et := 81) (e := _) Tryd.underlying26 rfl) (hs0)) rfl rfl ?_
    refine St.r (R.move rfl) rfl rfl ?_
    refine St.pass (dg := 94) rfl rfl rfl rfl rfl ?_
    refine St.pass (dg := 94) rfl rfl rfl rfl rfl ?_
    refine St.pass (dg := 94) rfl rfl rfl rfl rfl ?_
    refine St.r (R.pickT rfl rfl) rfl rfl ?_
    refine St.r (R.move rfl) rfl rfl ?_
    refine St.pass (dg := 99) rfl rfl rfl rfl rfl ?_
    refine St.pass (dg := 99) rfl rfl rfl rfl rfl ?_
    refine St.pass (dg := 99) rfl rfl rfl rfl rfl ?_
    refine St.r (R.pickT rfl rfl) rfl rfl ?_
    refine St.nil ?_
    refine St.weak [(0, _), (1, _), (2, _), (11, _), (12, _), (13, _), (103, _)] ⟨rfl, rfl, rfl, rfl, rfl, rfl, rfl, trivial⟩ ?_
    refine St.then_n ?_
    refine St.go hK12 ?_
    clear hK12
    refine St.condT rfl ?_
    refine St.seq fun K13 hK13 => ?_
    refine St.region ?_
    refine St.r (R.move rfl) rfl rfl ?_
    refine St.r (R.notNil (et := 81) (e := _) Tryd.underlying26 rfl) rfl rfl ?_
    refine St.r (R.assign rfl) rfl rfl ?_
    refine St.nil ?_
    refine St.weak [(6, _)] ⟨rfl, trivial⟩ ?_
    refine St.then_n ?_
    refine St.go hK13 ?_
    clear hK13
    refine St.ret ?_
    refine St.then_r ?_
    refine St.ret1 Tryd.results5 rfl ?_
    exact ⟨_, rfl, congrArg Value.bool (merge_bad fun h => not_set hs0 h.1), E⟩
  ·
    rcases Bool.eq_false_or_eq_true (setErr a).isSome with hs1 | hs1
    ·
      refine St.region ?_
      refine St.r (R.move rfl) rfl rfl ?_
      refine St.call rfl rfl ent31 (Sorted_ret _ (h0.ext (REnc.firm _) E)) rfl ?_
      rintro r92 w92 ⟨rfl, e92⟩
      replace E := Ext.trans E e92
      replace rm := rm.ext (REnc.firm _) e92
      replace rk := rk.ext (REnc.firm _) e92
      replace rn := rn.ext (REnc.firm _) e92
      replace rl := rl.ext (REnc.firm _) e92
      refine St.r (Runs.lit (c := false) (R.notNil (et := 81) (e := _) Tryd.underlying26 rfl) (hs0)) rfl rfl ?_
      refine St.r (R.move rfl) rfl rfl ?_
      refine St.take (dg := 94) rfl rfl ?_ rfl
      refine St.r (R.move rfl) rfl rfl ?_
      refine St.take (dg := 94) rfl rfl ?_ rfl
      refine St.call rfl rfl ent31 (Sorted_ret _ (h1.ext (REnc.firm _) E)) rfl ?_
      rintro r96 w96 ⟨rfl, e96⟩
      replace E := Ext.trans E e96
      replace rm := rm.ext (REnc.firm _) e96
      replace rk := rk.ext (REnc.firm _) e96
      replace rn := rn.ext (REnc.firm _) e96
      replace rl := rl.ext (REnc.firm _) e96
      refine St.take (dg := 94) rfl rfl ?_ rfl
      refine St.r (Runs.lit (c := true) (R.notNil (et := 81) (e := _) Tryd.underlying26 rfl) (hs1)) rfl rfl ?_
      refine St.r (R.pickF rfl rfl) rfl rfl ?_
      refine St.r (R.move rfl) rfl rfl ?_
      refine St.pass (dg := 99) rfl rfl rfl rfl rfl ?_
      refine St.pass (dg := 99) rfl rfl rfl rfl rfl ?_
      refine St.pass (dg := 99) rfl rfl rfl rfl rfl ?_
      refine St.r (R.pickT rfl rfl) rfl rfl ?_
      refine St.nil ?_
      refine St.weak [(0, _), (1, _), (2, _), (11, _), (12, _), (13, _), (103, _)] ⟨rfl, rfl, rfl, rfl, rfl, rfl, rfl, trivial⟩ ?_
      refine St.then_n ?_
      refine St.go hK12 ?_
      clear hK12
      refine St.condT rfl ?_
      refine St.seq fun K14 hK14 => ?_
      refine St.region ?_
      refine St.r (R.move rfl) rfl rfl ?_
      refine St.r (R.notNil (et := 81) (e := _) Tryd.underlying26 rfl) rfl rfl ?_
      refine St.r (R.assign rfl) rfl rfl ?_
      refine St.nil ?_
      refine St.weak [(6, _)] ⟨rfl, trivial⟩ ?_
      refine St.then_n ?_
      refine St.go hK14 ?_
      clear hK14
      refine St.ret ?_
      refine St.then_r ?_
      refine St.ret1 Tryd.results5 rfl ?_
      exact ⟨_, rfl, congrArg Value.bool (merge_bad fun h => not_set hs1 h.2.1), E⟩
    ·
      refine St.region ?_
      refine St.r (R.move rfl) rfl rfl ?_
      refine St.call rfl rfl ent31 (Sorted_ret _ (h0.ext (REnc.firm _) E)) rfl ?_
      rintro r92 w92 ⟨rfl, e92⟩
      replace E := Ext.trans E e92
      replace rm := rm.ext (REnc.firm _) e92
      replace rk := rk.ext (REnc.firm _) e92
      replace rn := rn.ext (REnc.firm _) e92
      replace rl := rl.ext (REnc.firm _) e92
      refine St.r (Runs.lit (c := false) (R.notNil (et := 81) (e := _) Tryd.underlying26 rfl) (hs0)) rfl rfl ?_
      refine St.r (R.move rfl) rfl rfl ?_
      refine St.take (dg := 94) rfl rfl ?_ rfl
      refine St.r (R.move rfl) rfl rfl ?_
      refine St.take (dg := 94) rfl rfl ?_ rfl
      refine St.call rfl rfl ent31 (Sorted_ret _ (h1.ext (REnc.firm _) E)) rfl ?_
      rintro r96 w96 ⟨rfl, e96⟩
      replace E := Ext.trans E e96
      replace rm := rm.ext (REnc.firm _) e96
      replace rk := rk.ext (REnc.firm _) e96
      replace rn := rn.ext (REnc.firm _) e96
      replace rl := rl.ext (REnc.firm _) e96
      refine St.take (dg := 94) rfl rfl ?_ rfl
      refine St.r (Runs.lit (c := false) (R.notNil (et := 81) (e := _) Tryd.underlying26 rfl) (hs1)) rfl rfl ?_
      refine St.r (R.pickF rfl rfl) rfl rfl ?_
      refine St.r (R.move rfl) rfl rfl ?_
      refine St.take (dg := 99) rfl rfl ?_ rfl
      refine St.r (R.move rfl) rfl rfl ?_
      refine St.take (dg := 99) rfl rfl ?_ rfl
      refine St.call rfl rfl ent31 (Sorted_ret _ (h2.ext (REnc.firm _) E)) rfl ?_
      rintro r101 w101 ⟨rfl, e101⟩
      replace E := Ext.trans E e101
      replace rm := rm.ext (REnc.firm _) e101
      replace rk := rk.ext (REnc.firm _) e101
      replace rn := rn.ext (REnc.firm _) e101
      replace rl := rl.ext (REnc.firm _) e101
      refine St.take (dg := 99) rfl rfl ?_ rfl
      refine St.r (R.notNil (et := 81) (e := _) Tryd.underlying26 rfl) rfl rfl ?_
      refine St.r (R.pickF rfl rfl) rfl rfl ?_
      refine St.nil ?_
      refine St.weak [(0, _), (1, _), (2, _), (11, _), (12, _), (13, _), (103, _)] ⟨rfl, rfl, rfl, rfl, rfl, rfl, rfl, trivial⟩ ?_
      refine St.then_n ?_
      refine St.go hK12 ?_
      clear hK12
      refine St.cond rfl (fun hs2 => ?_) (fun hs2 => ?_)
      ·
        refine St.seq fun K15 hK15 => ?_
        refine St.region ?_
        refine St.r (R.move rfl) rfl rfl ?_
        refine St.r (R.notNil (et := 81) (e := _) Tryd.underlying26 rfl) rfl rfl ?_
        refine St.r (R.assign rfl) rfl rfl ?_
        refine St.nil ?_
        refine St.weak [(6, _)] ⟨rfl, trivial⟩ ?_
        refine St.then_n ?_
        refine St.go hK15 ?_
        clear hK15
        refine St.ret ?_
        refine St.then_r ?_
        refine St.ret1 Tryd.results5 rfl ?_
        exact ⟨_, rfl, congrArg Value.bool (merge_bad fun h => not_set hs2 h.2.2), E⟩
      ·
        have i0 := setErr_iff.1 (isSome_false hs0)
        have i1 := setErr_iff.1 (isSome_false hs1)
        have i2 := setErr_iff.1 (isSome_false hs2)
        have hk := hpm (right3 i0 i1 i2)
        refine St.skip ?_
        refine St.then_n ?_
        refine St.go hK11 ?_
        clear hK11
        refine St.seq fun K16 hK16 => ?_
        refine St.region ?_
        refine St.r (R.move rfl) rfl rfl ?_
        refine St.r (R.move rfl) rfl rfl ?_
        refine St.r (R.move rfl) rfl rfl ?_
        refine St.call rfl rfl ent28 (Merge_ret _ (h0.ext (REnc.firm _) E) (h1.ext (REnc.firm _) E) (h0.ext (REnc.firm _) E)) rfl ?_
        rintro r110 w110 ⟨o, k3, ks3, rfl, hpo, ro, rk3, e110⟩
        replace E := Ext.trans E e110
        replace rm := rm.ext (REnc.firm _) e110
        replace rk := rk.ext (REnc.firm _) e110
        replace rn := rn.ext (REnc.firm _) e110
        replace rl := rl.ext (REnc.firm _) e110
        have hm3 := merge_same i0 i1 hpo
        rw [hm3] at ro ⊢
        refine St.r (R.move rfl) rfl rfl ?_
        refine St.r (R.extract rfl rfl) rfl rfl ?_
        refine St.r (R.extract rfl rfl) rfl rfl ?_
        refine St.r (R.extract rfl rfl) rfl rfl ?_
        refine St.r (R.assign rfl) rfl rfl ?_
        refine St.r (R.assign rfl) rfl rfl ?_
        refine St.r (R.assign rfl) rfl rfl ?_
        refine St.nil ?_
        refine St.weak [(1, _), (2, _), (11, _), (12, _), (13, _), (19, _), (21, _)] ⟨rfl, rfl, rfl, rfl, rfl, rfl, rfl, trivial⟩ ?_
        refine St.then_n ?_
        refine St.go hK16 ?_
        clear hK16
        refine St.seq fun K17 hK17 => ?_
        refine St.region ?_
        refine St.r (R.move rfl) rfl rfl ?_
        refine St.r (R.move rfl) rfl rfl ?_
        refine St.call rfl rfl ent29 (sTriples_ret _ ro (h1.ext (REnc.firm _) E)) rfl ?_
        rintro r116 w116 ⟨rfl, e116⟩
        replace E := Ext.trans E e116
        replace rm := rm.ext (REnc.firm _) e116
        replace rk := rk.ext (REnc.firm _) e116
        replace ro := ro.ext (REnc.firm _) e116
        refine St.r (R.assign rfl) rfl rfl ?_
        refine St.nil ?_
        refine St.weak [(1, _), (2, _), (11, _), (12, _), (13, _), (21, _), (22, _)] ⟨rfl, rfl, rfl, rfl, rfl, rfl, rfl, trivial⟩ ?_
        refine St.then_n ?_
        refine St.go hK17 ?_
        clear hK17
        refine St.seq fun K18 hK18 => ?_
        refine St.seq fun K19 hK19 => ?_
        refine St.region ?_
        refine St.r (R.move rfl) rfl rfl ?_
        refine St.r (Runs.lit (c := false) (R.notNil (et := 81) (e := _) Tryd.underlying26 rfl) (rfl)) rfl rfl ?_
        refine St.r (R.move rfl) rfl rfl ?_
        refine St.take (dg := 119) rfl rfl ?_ rfl
        refine St.r (R.move rfl) rfl rfl ?_
        refine St.take (dg := 119) rfl rfl ?_ rfl
        refine St.r (Runs.lit (c := false) (R.not rfl) (by simp)) rfl rfl ?_
        refine St.r (R.pickF rfl rfl) rfl rfl ?_
        refine St.nil ?_
        refine St.weak [(1, _), (2, _), (11, _), (12, _), (13, _), (122, _)] ⟨rfl, rfl, rfl, rfl, rfl, rfl, trivial⟩ ?_
        refine St.then_n ?_
        refine St.go hK19 ?_
        clear hK19
        refine St.condF rfl ?_
        refine St.skip ?_
        refine St.then_n ?_
        refine St.go hK18 ?_
        clear hK18
        refine St.seq fun K20 hK20 => ?_
        refine St.seq fun K21 hK21 => ?_
        refine St.region ?_
        refine St.r (R.move rfl) rfl rfl ?_
        refine St.r (R.notNil (et := 81) (e := _) Tryd.underlying26 rfl) rfl rfl ?_
        refine St.nil ?_
        refine St.weak [(1, _), (2, _), (11, _), (12, _), (13, _), (124, _)] ⟨rfl, rfl, rfl, rfl, rfl, rfl, trivial⟩ ?_
        refine St.then_n ?_
        refine St.go hK21 ?_
        clear hK21
        refine St.cond rfl (fun h124 => ?_) (fun h124 => ?_)
        ·
          refine St.seq fun K22 hK22 => ?_
          refine St.region ?_
          refine St.r (R.move rfl) rfl rfl ?_
          refine St.call rfl rfl ent8 (Error_ret _ (hg.ext E)) rfl ?_
          rintro r126 w126 ⟨rfl, e126⟩
          replace E := Ext.trans E e126
          replace rm := rm.ext (REnc.firm _) e126
          replace rk := rk.ext (REnc.firm _) e126
          replace ro := ro.ext (REnc.firm _) e126
          refine St.r (R.assign rfl) rfl rfl ?_
          refine St.nil ?_
          refine St.weak [(12, _), (23, _)] ⟨rfl, rfl, trivial⟩ ?_
          refine St.then_n ?_
          refine St.go hK22 ?_
          clear hK22
          refine St.seq fun K23 hK23 => ?_
          refine St.region ?_
          refine St.r (R.move rfl) rfl rfl ?_
          refine St.r (R.move rfl) rfl rfl ?_
          refine St.r (R.lenSl Tryd.underlying69 rfl) rfl rfl ?_
          refine St.r (R.gtr rfl rfl) rfl rfl ?_
          refine St.r (R.eqB Tryd.underlying4 rfl rfl) rfl rfl ?_
          refine St.r (R.assign rfl) rfl rfl ?_
          refine St.nil ?_
          refine St.weak [(6, _)] ⟨rfl, trivial⟩ ?_
          refine St.then_n ?_
          refine St.go hK23 ?_
          clear hK23
          refine St.ret ?_
          refine St.then_r ?_
          refine St.ret1 Tryd.results5 rfl ?_
          refine ⟨_, rfl, congrArg Value.bool ?_, E⟩
          have h9 := merge_err (ks := ks1) i0 i1 i2
          rw [show decide ((0 : Int) < (((mergeL base a b ks1).2.1.length : Nat) : Int)) = decide (0 < (mergeL base a b ks1).2.1.length) by simp]
          exact h9
        ·
          obtain ⟨hmL, hml⟩ := merge_ok (ks := ks1) i0 i1 i2 h124
          have hM : (mergeL base a b ks1).1 = outL base a b true ks1 := by rw [hmL]
          rw [hM] at rm ⊢
          have hout := outL_set hk i1 i2 hml
          refine St.skip ?_
          refine St.then_n ?_
          refine St.go hK20 ?_
          clear hK20
          refine St.seq fun K24 hK24 => ?_
          refine St.seq fun K25 hK25 => ?_
          refine St.region ?_
          refine St.r (R.assign rfl) rfl rfl ?_
          refine St.nil ?_
          refine St.weak [(1, _), (2, _), (11, _), (24, _)] ⟨rfl, rfl, rfl, rfl, trivial⟩ ?_
          refine St.then_n ?_
          refine St.go hK25 ?_
          clear hK25
          refine St.block ?_
          refine St.loop (fun (k : Nat) => [(1, v1), (2, v2), (11, .slice MA (outL base a b true ks1).length MZ), (24, .int .i64 (k : Int))])
              (fun (k : Nat) w => k ≤ (outL base a b true ks1).length ∧ Ext w0 w ∧ RTriples w (.slice MA (outL base a b true ks1).length MZ) (outL base a b true ks1))
              (fun (k : Nat) => (outL base a b true ks1).length - k) 0 ⟨rfl, rfl, rfl, rfl, trivial⟩ ?_ ?_
          · exact ⟨Nat.zero_le _, E, rm⟩
          rintro k w ⟨hki, E, rm⟩
          show St _ _ [(1, v1), (2, v2), (11, .slice MA (outL base a b true ks1).length MZ), (24, .int .i64 (k : Int))] _ _
          refine St.seq fun K26 hK26 => ?_
          refine St.seq fun K27 hK27 => ?_
          refine St.region ?_
          refine St.r (R.move rfl) rfl rfl ?_
          refine St.r (R.move rfl) rfl rfl ?_
          refine St.r (R.lenSl Tryd.underlying64 rfl) rfl rfl ?_
          refine St.r (R.lss rfl rfl) rfl rfl ?_
          refine St.nil ?_
          refine St.weak [(1, _), (2, _), (11, _), (24, _), (135, _)] ⟨rfl, rfl, rfl, rfl, rfl, trivial⟩ ?_
          refine St.then_n ?_
          refine St.go hK27 ?_
          clear hK27
          refine St.condD rfl (fun h135 => ?_) (fun h135 => ?_)
          ·
            obtain ⟨x, hx⟩ := get_of_lt (xs := outL base a b true ks1) (k := k) (by omega)
            obtain ⟨mb, mo, rfl, hxc⟩ := rm.get' hx
            refine St.skip ?_
            refine St.then_n ?_
            refine St.go hK26 ?_
            clear hK26
            refine St.seq fun K28 hK28 => ?_
            refine St.block ?_
            refine St.seq fun K29 hK29 => ?_
            refine St.region ?_
            refine St.r (R.move rfl) rfl rfl ?_
            refine St.r (R.move rfl) rfl rfl ?_
            refine St.r (R.move rfl) rfl rfl ?_
            refine St.r (R.indexS k Tryd.underlying64 Tryd.sizeOf68 rfl rfl rfl (by omega)) rfl rfl ?_
            refine St.r (R.loadA Tryd.isAgg68 Tryd.sizeOf68 rfl (rm.get hx) rfl) rfl rfl ?_
            refine St.call rfl rfl ent32 (rIn_ret (t := x) _ (h1.ext (REnc.firm _) E)) rfl ?_
            rintro r143 w143 ⟨rfl, e143⟩
            replace E := Ext.trans E e143
            replace rm := rm.ext (REnc.firm _) e143
            refine St.r (R.assign rfl) rfl rfl ?_
            refine St.nil ?_
            refine St.weak [(1, _), (2, _), (11, _), (24, _), (25, _)] ⟨rfl, rfl, rfl, rfl, rfl, trivial⟩ ?_
            refine St.then_n ?_
            refine St.go hK29 ?_
            clear hK29
            refine St.seq fun K30 hK30 => ?_
            refine St.region ?_
            refine St.r (R.move rfl) rfl rfl ?_
            refine St.r (R.move rfl) rfl rfl ?_
            refine St.r (R.move rfl) rfl rfl ?_
            refine St.r (R.indexS k Tryd.underlying64 Tryd.sizeOf68 rfl rfl rfl (by omega)) rfl rfl ?_
            refine St.r (R.loadA Tryd.isAgg68 Tryd.sizeOf68 rfl (rm.get hx) rfl) rfl rfl ?_
            refine St.call rfl rfl ent32 (rIn_ret (t := x) _ (h2.ext (REnc.firm _) E)) rfl ?_
            rintro r149 w149 ⟨rfl, e149⟩
            replace E := Ext.trans E e149
            replace rm := rm.ext (REnc.firm _) e149
            refine St.r (R.assign rfl) rfl rfl ?_
            refine St.nil ?_
            refine St.weak [(1, _), (2, _), (11, _), (24, _), (25, _), (26, _)] ⟨rfl, rfl, rfl, rfl, rfl, rfl, trivial⟩ ?_
            refine St.then_n ?_
            refine St.go hK30 ?_
            clear hK30
            refine St.seq fun K31 hK31 => ?_
            by_cases hin : ¬ x ∈ a
            ·
              refine St.region ?_
              refine St.r (R.move rfl) rfl rfl ?_
              refine St.r (Runs.lit (c := true) (R.not rfl) ((by simp [hin]))) rfl rfl ?_
              refine St.r (R.move rfl) rfl rfl ?_
              refine St.take (dg := 152) rfl rfl ?_ rfl
              refine St.r (R.move rfl) rfl rfl ?_
              refine St.take (dg := 152) rfl rfl ?_ rfl
              refine St.r (Runs.lit (c := false) (R.not rfl) (by simp [((outL_sub (List.mem_of_getElem? hx)).resolve_left hin)])) rfl rfl ?_
              refine St.r (R.pickT rfl rfl) rfl rfl ?_
              refine St.nil ?_
              refine St.weak [(1, _), (2, _), (11, _), (24, _), (155, _)] ⟨rfl, rfl, rfl, rfl, rfl, trivial⟩ ?_
              refine St.then_n ?_
              refine St.go hK31 ?_
              clear hK31
              refine St.condF rfl ?_
              refine St.skip ?_
              refine St.in_n ?_
              refine St.then_n ?_
              refine St.go hK28 ?_
              clear hK28
              refine St.region ?_
              refine St.r (R.move rfl) rfl rfl ?_
              refine St.r (R.add rfl rfl (by omega) (by omega)) rfl rfl ?_
              refine St.r (R.assign rfl) rfl rfl ?_
              refine St.nil ?_
              refine St.weak [(1, _), (2, _), (11, _), (24, _)] ⟨rfl, rfl, rfl, rfl, trivial⟩ ?_
              refine St.then_n ?_
              refine St.round (k + 1) ⟨rfl, rfl, rfl, rfl, trivial⟩ ?_ ?_
              · exact ⟨by omega, E, rm⟩
              · omega
            ·
              refine St.region ?_
              refine St.r (R.move rfl) rfl rfl ?_
              refine St.r (Runs.lit (c := false) (R.not rfl) ((by simpa using hin))) rfl rfl ?_
              refine St.r (R.move rfl) rfl rfl ?_
              refine St.pass (dg := 152) rfl rfl rfl rfl rfl ?_
              refine St.pass (dg := 152) rfl rfl rfl rfl rfl ?_
              refine St.r (R.pickF rfl rfl) rfl rfl ?_
              refine St.nil ?_
              refine St.weak [(1, _), (2, _), (11, _), (24, _), (155, _)] ⟨rfl, rfl, rfl, rfl, rfl, trivial⟩ ?_
              refine St.then_n ?_
              refine St.go hK31 ?_
              clear hK31
              refine St.condF rfl ?_
              refine St.skip ?_
              refine St.in_n ?_
              refine St.then_n ?_
              refine St.go hK28 ?_
              clear hK28
              refine St.region ?_
              refine St.r (R.move rfl) rfl rfl ?_
              refine St.r (R.add rfl rfl (by omega) (by omega)) rfl rfl ?_
              refine St.r (R.assign rfl) rfl rfl ?_
              refine St.nil ?_
              refine St.weak [(1, _), (2, _), (11, _), (24, _)] ⟨rfl, rfl, rfl, rfl, trivial⟩ ?_
              refine St.then_n ?_
              refine St.round (k + 1) ⟨rfl, rfl, rfl, rfl, trivial⟩ ?_ ?_
              · exact ⟨by omega, E, rm⟩
              · omega
          ·
            refine St.exit ?_
            refine St.then_x ?_
            refine St.then_x ?_
            refine St.in_x ?_
            refine St.then_n ?_
            refine St.go hK24 ?_
            clear hK24
            refine St.seq fun K32 hK32 => ?_
            refine St.region ?_
            refine St.r (R.move rfl) rfl rfl ?_
            refine St.r (R.move rfl) rfl rfl ?_
            refine St.call rfl rfl ent33 (Both_ret _ (h1.ext (REnc.firm _) E) (h2.ext (REnc.firm _) E)) rfl ?_
            rintro r159 w159 ⟨y, rfl, ry, e159⟩
            replace E := Ext.trans E e159
            replace rm := rm.ext (REnc.firm _) e159
            have hab : rightErr [a, b] = none := right_iff.2 (by simp [i1, i2])
            rw [hab, if_neg (by simp)] at ry
            rw [hab]
            refine St.r (R.move rfl) rfl rfl ?_
            refine St.r (R.extract rfl rfl) rfl rfl ?_
            refine St.r (R.extract rfl rfl) rfl rfl ?_
            refine St.r (R.assign rfl) rfl rfl ?_
            refine St.r (R.assign rfl) rfl rfl ?_
            refine St.nil ?_
            refine St.weak [(11, _), (21, _), (27, _)] ⟨rfl, rfl, rfl, trivial⟩ ?_
            refine St.then_n ?_
            refine St.go hK32 ?_
            clear hK32
            refine St.seq fun K33 hK33 => ?_
            refine St.region ?_
            refine St.r (R.move rfl) rfl rfl ?_
            refine St.r (R.move rfl) rfl rfl ?_
            refine St.call rfl rfl ent33 (Both_ret _ ry rm) rfl ?_
            rintro r165 w165 ⟨z, rfl, rz, e165⟩
            replace E := Ext.trans E e165
            replace rm := rm.ext (REnc.firm _) e165
            replace ry := ry.ext (REnc.firm _) e165
            have hbm : rightErr [partL a b true, outL base a b true ks1] = none := right_iff.2 (by simp [i1.part b true, hout])
            rw [hbm, if_neg (by simp), both_kept hk] at rz
            rw [hbm]
            refine St.r (R.move rfl) rfl rfl ?_
            refine St.r (R.extract rfl rfl) rfl rfl ?_
            refine St.r (R.extract rfl rfl) rfl rfl ?_
            refine St.r (R.assign rfl) rfl rfl ?_
            refine St.r (R.assign rfl) rfl rfl ?_
            refine St.nil ?_
            refine St.weak [(11, _), (21, _), (27, _), (28, _), (29, _)] ⟨rfl, rfl, rfl, rfl, rfl, trivial⟩ ?_
            refine St.then_n ?_
            refine St.go hK33 ?_
            clear hK33
            refine St.seq fun K34 hK34 => ?_
            refine St.region ?_
            refine St.r (R.move rfl) rfl rfl ?_
            refine St.r (R.move rfl) rfl rfl ?_
            refine St.call rfl rfl ent29 (sTriples_ret _ rz ry) rfl ?_
            rintro r170 w170 ⟨rfl, e170⟩
            replace E := Ext.trans E e170
            replace rm := rm.ext (REnc.firm _) e170
            replace ry := ry.ext (REnc.firm _) e170
            replace rz := rz.ext (REnc.firm _) e170
            refine St.r (R.assign rfl) rfl rfl ?_
            refine St.nil ?_
            refine St.weak [(11, _), (21, _), (29, _), (30, _)] ⟨rfl, rfl, rfl, rfl, trivial⟩ ?_
            refine St.then_n ?_
            refine St.go hK34 ?_
            clear hK34
            refine St.seq fun K35 hK35 => ?_
            refine St.region ?_
            refine St.r (R.move rfl) rfl rfl ?_
            refine St.r (Runs.lit (c := true) (R.isNil (et := 81) (e := _) Tryd.underlying26 rfl) (rfl)) rfl rfl ?_
            refine St.r (R.move rfl) rfl rfl ?_
            refine St.take (dg := 173) rfl rfl ?_ rfl
            refine St.r (R.move rfl) rfl rfl ?_
            refine St.take (dg := 173) rfl rfl ?_ rfl
            refine St.r (Runs.lit (c := true) (R.isNil (et := 81) (e := _) Tryd.underlying26 rfl) (rfl)) rfl rfl ?_
            refine St.r (R.pickT rfl rfl) rfl rfl ?_
            refine St.r (R.move rfl) rfl rfl ?_
            refine St.take (dg := 177) rfl rfl ?_ rfl
            refine St.r (Runs.lit (c := true) (R.move rfl) (decide_eq_true rfl)) rfl rfl ?_
            refine St.r (R.pickT rfl rfl) rfl rfl ?_
            refine St.r (R.move rfl) rfl rfl ?_
            refine St.take (dg := 180) rfl rfl ?_ rfl
            refine St.r (R.move rfl) rfl rfl ?_
            refine St.take (dg := 180) rfl rfl ?_ rfl
            refine St.call rfl rfl ent31 (Sorted_ret _ rm) rfl ?_
            rintro r182 w182 ⟨rfl, e182⟩
            replace E := Ext.trans E e182
            replace rm := rm.ext (REnc.firm _) e182
            replace ry := ry.ext (REnc.firm _) e182
            replace rz := rz.ext (REnc.firm _) e182
            refine St.take (dg := 180) rfl rfl ?_ rfl
            refine St.r (Runs.lit (c := true) (R.isNil (et := 81) (e := _) Tryd.underlying26 rfl) (by rw [setErr_iff.2 hout]; rfl)) rfl rfl ?_
            refine St.r (R.pickT rfl rfl) rfl rfl ?_
            refine St.r (R.assign rfl) rfl rfl ?_
            refine St.nil ?_
            refine St.weak [(6, _)] ⟨rfl, trivial⟩ ?_
            refine St.then_n ?_
            refine St.go hK35 ?_
            clear hK35
            refine St.ret ?_
            refine St.ret1 Tryd.results5 rfl ?_
            exact ⟨_, rfl, rfl, E⟩

end Go.Proofs.YtjgcmpondbocfaaDoor
