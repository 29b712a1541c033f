/- What the law DagHolds comes to: walked against plain Lean. Under the reading of its arguments. -/
import Derived.Test.YtjgcmpondbocfaaProg
import Derived.Test.YtjgcmpondbocfaaDagLaw
import Derived.Test.YtjgcmpondbocfaaDagW
namespace Go.Proofs.Ytjgcmpondbocfaa
open Go.RowKit
theorem ent7 : Ent Try.prog 7 := Ent.of Try.func7 (by kernel_rfl) rfl
theorem ent8 : Ent Try.prog 8 := Ent.of Try.func8 (by kernel_rfl) rfl
theorem ent9 : Ent Try.prog 9 := Ent.of Try.func9 (by kernel_rfl) rfl
theorem ent10 : Ent Try.prog 10 := Ent.of Try.func10 (by kernel_rfl) rfl
theorem ent11 : Ent Try.prog 11 := Ent.of Try.func11 (by kernel_rfl) rfl
theorem places25 : ∀ fs, Try.prog.underlying 25 = some (.struct fs) → Places Try.prog fs [(0, 1), (1, 1), (2, 1)] := by
  intro fs h
  rw [Try.underlying25] at h
  cases h
  intro w
  simp [go_sem, Try.sizeOf23, Try.sizeOf3, Try.sizeOf9]
theorem DagHolds_ret {ls : List Commit} {v : Value} {a b : Int} (w0 : World) (hv : RCommits w0 v ls) :
    Ret Try.prog 3 [v, .int .i64 a, .int .i64 b] w0 fun r w' => r = .bool true ∧ Ext w0 w' := by
  have E : Ext w0 w0 := Ext.refl w0
  refine St.enter (N := 255) Try.func3 rfl Try.ntmps3 rfl ?_
  refine St.seq fun K0 hK0 => ?_
  refine St.region ?_
  refine St.r (R.assign rfl) rfl rfl ?_
  refine St.nil ?_
  refine St.weak [(0, _), (1, _), (2, _)] ⟨rfl, rfl, rfl, trivial⟩ ?_
  refine St.then_n ?_
  refine St.go hK0 ?_
  clear hK0
  refine St.seq fun K1 hK1 => ?_
  refine St.region ?_
  refine St.r (R.build Try.underlying25 (places25 _ Try.underlying25) Try.zeroValue25 rfl rfl rfl) rfl rfl ?_
  refine St.buildSl Try.underlying23 Try.sizeOf3 Try.zeroValue3 rfl rfl rfl rfl (by intro u hu; simp only [List.mem_cons, List.not_mem_nil, or_false] at hu; first | (subst hu; rfl) | (rcases hu with rfl | rfl <;> rfl) | (rcases hu with rfl | rfl | rfl <;> rfl) | (rcases hu with rfl | rfl | rfl | rfl <;> rfl)) rfl ?_
  intro w34 b34 hb34 hs34 e34 k34
  have qE34 := E.size
  replace E := Ext.trans E e34
  refine St.r (R.build Try.underlying25 (places25 _ Try.underlying25) Try.zeroValue25 rfl rfl rfl) rfl rfl ?_
  refine St.buildSl Try.underlying23 Try.sizeOf3 Try.zeroValue3 rfl rfl rfl rfl (by intro u hu; simp only [List.mem_cons, List.not_mem_nil, or_false] at hu; first | (subst hu; rfl) | (rcases hu with rfl | rfl <;> rfl) | (rcases hu with rfl | rfl | rfl <;> rfl) | (rcases hu with rfl | rfl | rfl | rfl <;> rfl)) rfl ?_
  intro w36 b36 hb36 hs36 e36 k36
  have qE36 := E.size
  replace E := Ext.trans E e36
  replace k34 := k34.ext e36
  refine St.r (R.build Try.underlying25 (places25 _ Try.underlying25) Try.zeroValue25 rfl rfl rfl) rfl rfl ?_
  refine St.buildSl Try.underlying22 Try.sizeOf25 Try.zeroValue25 rfl rfl rfl rfl (by intro u hu; simp only [List.mem_cons, List.not_mem_nil, or_false] at hu; first | (subst hu; rfl) | (rcases hu with rfl | rfl <;> rfl) | (rcases hu with rfl | rfl | rfl <;> rfl) | (rcases hu with rfl | rfl | rfl | rfl <;> rfl)) rfl ?_
  intro w38 b38 hb38 hs38 e38 k38
  have qE38 := E.size
  replace E := Ext.trans E e38
  replace k34 := k34.ext e38
  replace k36 := k36.ext e38
  have r7 : RCommits w38 (.slice (some ⟨b38, 0, none⟩) 3 3) one3 := one3_reads k38 k34 k36
  refine St.r (R.assign rfl) rfl rfl ?_
  refine St.nil ?_
  refine St.weak [(0, _), (1, _), (2, _), (7, _)] ⟨rfl, rfl, rfl, rfl, trivial⟩ ?_
  refine St.then_n ?_
  refine St.go hK1 ?_
  clear hK1
  refine St.seq fun K2 hK2 => ?_
  refine St.region ?_
  refine St.r (R.move rfl) rfl rfl ?_
  refine St.call rfl rfl ent7 (Bases_ret _ r7) rfl ?_
  rintro r41 w41 ⟨sv41, rfl, r42, e41⟩
  replace E := Ext.trans E e41
  replace k34 := k34.ext e41
  replace k36 := k36.ext e41
  replace k38 := k38.ext e41
  rw [one3_base] at r42
  obtain ⟨dA, dO, dC, rfl, -, -, -⟩ := r42.at (by decide)
  refine St.r (R.move rfl) rfl rfl ?_
  refine St.r (R.extract rfl rfl) rfl rfl ?_
  refine St.r (R.extract rfl rfl) rfl rfl ?_
  refine St.r (R.assign rfl) rfl rfl ?_
  refine St.r (R.assign rfl) rfl rfl ?_
  refine St.nil ?_
  refine St.weak [(0, _), (1, _), (2, _), (8, _), (9, _)] ⟨rfl, rfl, rfl, rfl, rfl, trivial⟩ ?_
  refine St.then_n ?_
  refine St.go hK2 ?_
  clear hK2
  refine St.seq fun K3 hK3 => ?_
  refine St.seq fun K4 hK4 => ?_
  refine St.region ?_
  refine St.r (R.move rfl) rfl rfl ?_
  refine St.r (Runs.lit (c := false) (R.notNil (et := 91) (e := _) Try.underlying27 rfl) (one3_ready)) rfl rfl ?_
  refine St.r (R.move rfl) rfl rfl ?_
  refine St.take (dg := 46) rfl rfl ?_ rfl
  refine St.r (R.move rfl) rfl rfl ?_
  refine St.take (dg := 46) rfl rfl ?_ rfl
  refine St.r (R.lenSl Try.underlying23 rfl) rfl rfl ?_
  refine St.take (dg := 46) rfl rfl ?_ rfl
  refine St.r (Runs.lit (c := false) (R.neq rfl rfl) (by decide)) rfl rfl ?_
  refine St.r (R.pickF rfl rfl) rfl rfl ?_
  refine St.r (R.move rfl) rfl rfl ?_
  refine St.take (dg := 51) rfl rfl ?_ rfl
  refine St.r (R.move rfl) rfl rfl ?_
  refine St.take (dg := 51) rfl rfl ?_ rfl
  refine St.r (R.indexS 0 Try.underlying23 Try.sizeOf3 rfl rfl rfl (by decide)) rfl rfl ?_
  refine St.take (dg := 51) rfl rfl ?_ rfl
  refine St.r (R.load1 Try.isAgg3 rfl ((r42.get (k := 0) rfl).at 0 rfl)) rfl rfl ?_
  refine St.take (dg := 51) rfl rfl ?_ rfl
  refine St.r (Runs.lit (c := false) (R.neq rfl rfl) (by decide)) rfl rfl ?_
  refine St.r (R.pickF rfl rfl) rfl rfl ?_
  refine St.nil ?_
  refine St.weak [(0, _), (1, _), (2, _), (56, _)] ⟨rfl, rfl, rfl, rfl, trivial⟩ ?_
  refine St.then_n ?_
  refine St.go hK4 ?_
  clear hK4
  refine St.condF rfl ?_
  refine St.skip ?_
  refine St.then_n ?_
  refine St.go hK3 ?_
  clear hK3
  refine St.seq fun K5 hK5 => ?_
  refine St.region ?_
  refine St.r (R.move rfl) rfl rfl ?_
  refine St.r (R.move rfl) rfl rfl ?_
  refine St.call rfl rfl ent8 (Ancestors_ret _ (hv.ext RCommit.firm E)) rfl ?_
  rintro r60 w60 ⟨sv60, rfl, o10, e60⟩
  replace E := Ext.trans E e60
  replace k34 := k34.ext e60
  replace k36 := k36.ext e60
  replace k38 := k38.ext e60
  have F := Ext.refl w60
  have z60 := E.size
  have hk10 := fun k (h : sv60.ownBlock = some k) => (o10.base h).2
  refine St.r (R.move rfl) rfl rfl ?_
  refine St.r (R.extract rfl rfl) rfl rfl ?_
  refine St.r (R.extract rfl rfl) rfl rfl ?_
  refine St.r (R.assign rfl) rfl rfl ?_
  refine St.r (R.assign rfl) rfl rfl ?_
  refine St.nil ?_
  refine St.weak [(0, _), (1, _), (2, _), (10, _), (11, _)] ⟨rfl, rfl, rfl, rfl, rfl, trivial⟩ ?_
  refine St.then_n ?_
  refine St.go hK5 ?_
  clear hK5
  refine St.seq fun K6 hK6 => ?_
  refine St.seq fun K7 hK7 => ?_
  refine St.region ?_
  refine St.r (R.move rfl) rfl rfl ?_
  refine St.r (R.notNil (et := 91) (e := _) Try.underlying27 rfl) rfl rfl ?_
  refine St.nil ?_
  refine St.weak [(0, _), (1, _), (2, _), (10, _), (64, _)] ⟨rfl, rfl, rfl, rfl, rfl, trivial⟩ ?_
  refine St.then_n ?_
  refine St.go hK7 ?_
  clear hK7
  refine St.cond rfl (fun h64 => ?_) (fun h64 => ?_)
  ·
    refine St.seq fun K8 hK8 => ?_
    refine St.region ?_
    refine St.r (R.assign rfl) rfl rfl ?_
    refine St.nil ?_
    refine St.weak [(6, _)] ⟨rfl, trivial⟩ ?_
    refine St.then_n ?_
    refine St.go hK8 ?_
    clear hK8
    refine St.ret ?_
    refine St.then_r ?_
    refine St.ret1 Try.results3 rfl ?_
    exact ⟨_, rfl, rfl, E⟩
  ·
    obtain ⟨h60, hel, hnums⟩ := ready_ok h64
    have hna := hnums a (by simp)
    obtain ⟨an, rfl⟩ : ∃ n : Nat, a = (n : Int) := ⟨a.toNat, by omega⟩
    obtain ⟨cm, hcm⟩ := get_of_lt (xs := ls) (k := an) (by omega)
    obtain ⟨vb, vo, vc, rfl, -, -, hrd⟩ := hv.at (by omega)
    obtain ⟨cs, -, hcell, pv, rfl, hpv⟩ := hrd an cm hcm
    obtain ⟨pA, pc, rfl, hp1, hp2⟩ := hpv.form
    have hcl := parents_le h64 hcm
    refine St.skip ?_
    refine St.then_n ?_
    refine St.go hK6 ?_
    clear hK6
    refine St.seq fun K9 hK9 => ?_
    refine St.region ?_
    refine St.r (R.move rfl) rfl rfl ?_
    refine St.buildSl Try.underlying23 Try.sizeOf3 Try.zeroValue3 rfl rfl rfl rfl (by intro u hu; simp only [List.mem_cons, List.not_mem_nil, or_false] at hu; first | (subst hu; rfl) | (rcases hu with rfl | rfl <;> rfl) | (rcases hu with rfl | rfl | rfl <;> rfl) | (rcases hu with rfl | rfl | rfl | rfl <;> rfl)) rfl ?_
    intro w66 b66 hb66 hs66 e66 k66
    have qE66 := E.size
    have qF66 := F.size
    replace E := Ext.trans E e66
    replace F := Ext.trans F e66
    replace k34 := k34.ext e66
    replace k36 := k36.ext e66
    replace k38 := k38.ext e66
    replace o10 := o10.ext e66
    have o12 : Own encInt 1 w60.heap.size 3 w66 (.slice (some ⟨b66, 0, none⟩) 1 1) [(an : Int)] := Own.of_blk (xs := [(an : Int)]) (sp := []) encInt_len k66 (by omega) (by simp) (by simp) (by simp [encInt])
    refine St.r (R.assign rfl) rfl rfl ?_
    refine St.nil ?_
    refine St.weak [(0, _), (1, _), (2, _), (10, _), (12, _)] ⟨rfl, rfl, rfl, rfl, rfl, trivial⟩ ?_
    refine St.then_n ?_
    refine St.go hK9 ?_
    clear hK9
    refine St.seq fun K10 hK10 => ?_
    refine St.seq fun K11 hK11 => ?_
    refine St.region ?_
    refine St.r (R.assign rfl) rfl rfl ?_
    refine St.nil ?_
    refine St.weak [(0, _), (1, _), (2, _), (10, _), (12, _), (13, _)] ⟨rfl, rfl, rfl, rfl, rfl, rfl, trivial⟩ ?_
    refine St.then_n ?_
    refine St.go hK11 ?_
    clear hK11
    refine St.block ?_
    refine St.loop (fun (x : Nat × Value) => match x with | (k, v12) => [(0, .slice (some ⟨vb, vo, none⟩) ls.length vc), (1, .int .i64 (an : Int)), (2, .int .i64 b), (10, sv60), (12, v12), (13, .int .i64 (k : Int))])
        (fun (x : Nat × Value) w => match x with | (k, v12) => k ≤ cm.parents.length ∧ Ext w0 w ∧ Ext w60 w ∧ Own encInt 1 w41.heap.size 3 w sv60 (ancList ls (an : Int)) ∧ Own encInt 1 w60.heap.size 3 w v12 (wantTo ls (an : Int) cm k))
        (fun (x : Nat × Value) => match x with | (k, v12) => cm.parents.length - k) (0, .slice (some ⟨b66, 0, none⟩) 1 1) ⟨rfl, rfl, rfl, rfl, rfl, rfl, trivial⟩ ?_ ?_
    · exact ⟨Nat.zero_le _, E, F, o10, o12⟩
    rintro ⟨k, v12⟩ w ⟨hk, E, F, o10, o12⟩
    show St _ _ [(0, .slice (some ⟨vb, vo, none⟩) ls.length vc), (1, .int .i64 (an : Int)), (2, .int .i64 b), (10, sv60), (12, v12), (13, .int .i64 (k : Int))] _ _
    refine St.seq fun K12 hK12 => ?_
    refine St.seq fun K13 hK13 => ?_
    refine St.region ?_
    refine St.r (R.move rfl) rfl rfl ?_
    refine St.r (R.move rfl) rfl rfl ?_
    refine St.r (R.move rfl) rfl rfl ?_
    refine St.r (R.indexS an Try.underlying22 Try.sizeOf25 rfl rfl rfl (by omega)) rfl rfl ?_
    refine St.r (R.fieldA Try.underlying25 rfl Try.sizeOf23 rfl rfl rfl) rfl rfl ?_
    refine St.r (R.load1 Try.isAgg23 rfl ((E.cells hcell).at 0 rfl)) rfl rfl ?_
    refine St.r (R.lenSl Try.underlying23 rfl) rfl rfl ?_
    refine St.r (R.lss rfl rfl) rfl rfl ?_
    refine St.nil ?_
    refine St.weak [(0, _), (1, _), (2, _), (10, _), (12, _), (13, _), (74, _)] ⟨rfl, rfl, rfl, rfl, rfl, rfl, rfl, trivial⟩ ?_
    refine St.then_n ?_
    refine St.go hK13 ?_
    clear hK13
    refine St.condD rfl (fun h74 => ?_) (fun h74 => ?_)
    ·
      obtain ⟨p, hp⟩ := get_of_lt (xs := cm.parents) (k := k) (by omega)
      obtain ⟨pb, po, pc', heq, -, -, hpc⟩ := hpv.at (by omega)
      cases heq
      obtain ⟨cs, -, hx, rfl⟩ := hpc k p hp
      have hpr := parent_ready h64 hcm hp
      refine St.skip ?_
      refine St.then_n ?_
      refine St.go hK12 ?_
      clear hK12
      refine St.seq fun K14 hK14 => ?_
      refine St.block ?_
      refine St.seq fun K15 hK15 => ?_
      refine St.region ?_
      refine St.r (R.move rfl) rfl rfl ?_
      refine St.r (R.move rfl) rfl rfl ?_
      refine St.r (R.move rfl) rfl rfl ?_
      refine St.r (R.indexS an Try.underlying22 Try.sizeOf25 rfl rfl rfl (by omega)) rfl rfl ?_
      refine St.r (R.fieldA Try.underlying25 rfl Try.sizeOf23 rfl rfl rfl) rfl rfl ?_
      refine St.r (R.load1 Try.isAgg23 rfl ((E.cells hcell).at 0 rfl)) rfl rfl ?_
      refine St.r (R.move rfl) rfl rfl ?_
      refine St.r (R.indexS _ Try.underlying23 Try.sizeOf3 rfl rfl rfl (by omega)) rfl rfl ?_
      refine St.r (R.load1 Try.isAgg3 rfl ((E.cells hx).at 0 rfl)) rfl rfl ?_
      refine St.call rfl rfl ent8 (Ancestors_ret _ (hv.ext RCommit.firm E)) rfl ?_
      rintro r87 w87 ⟨sv87, rfl, o87, e87⟩
      replace E := Ext.trans E e87
      replace F := Ext.trans F e87
      replace o10 := o10.ext e87
      replace o12 := o12.ext e87
      refine St.r (R.move rfl) rfl rfl ?_
      refine St.r (R.extract rfl rfl) rfl rfl ?_
      refine St.r (R.extract rfl rfl) rfl rfl ?_
      refine St.r (R.assign rfl) rfl rfl ?_
      refine St.r (R.assign rfl) rfl rfl ?_
      refine St.nil ?_
      refine St.weak [(0, _), (1, _), (2, _), (10, _), (12, _), (13, _), (14, _), (15, _)] ⟨rfl, rfl, rfl, rfl, rfl, rfl, rfl, rfl, trivial⟩ ?_
      refine St.then_n ?_
      refine St.go hK15 ?_
      clear hK15
      refine St.seq fun K16 hK16 => ?_
      refine St.seq fun K17 hK17 => ?_
      refine St.region ?_
      refine St.r (R.move rfl) rfl rfl ?_
      refine St.r (Runs.lit (c := false) (R.notNil (et := 91) (e := _) Try.underlying27 rfl) (hpr)) rfl rfl ?_
      refine St.nil ?_
      refine St.weak [(0, _), (1, _), (2, _), (10, _), (12, _), (13, _), (14, _), (91, _)] ⟨rfl, rfl, rfl, rfl, rfl, rfl, rfl, rfl, trivial⟩ ?_
      refine St.then_n ?_
      refine St.go hK17 ?_
      clear hK17
      refine St.condF rfl ?_
      refine St.skip ?_
      refine St.then_n ?_
      refine St.go hK16 ?_
      clear hK16
      refine St.region ?_
      refine St.r (R.move rfl) rfl rfl ?_
      refine St.r (R.move rfl) rfl rfl ?_
      refine St.append (enc := encInt) (fun _ => rfl) one_int Try.underlying23 info3 rfl rfl rfl rfl o12 (o87.reads encInt_len) (by have := wantTo_length ls an cm k; have := ancList_length ls p; omega) (by have := wantTo_length ls an cm k; have := ancList_length ls p; omega) F.size rfl ?_
      intro v94 w94 a94 g94 at94
      replace E := Ext.then E g94 (by intro j hj hk; have := (o12.base hk).1; omega)
      replace F := Ext.then F g94 (by intro j hj hk; have := (o12.base hk).1; omega)
      replace o10 := o10.chg g94 (by intro j h1 h2; have := (o12.base h2).1; have := hk10 j h1; omega)
      clear o12; have o12 := a94; clear a94
      refine St.r (R.assign rfl) rfl rfl ?_
      refine St.nil ?_
      refine St.weak [(0, _), (1, _), (2, _), (10, _), (12, _), (13, _)] ⟨rfl, rfl, rfl, rfl, rfl, rfl, trivial⟩ ?_
      refine St.in_n ?_
      refine St.then_n ?_
      refine St.go hK14 ?_
      clear hK14
      refine St.region ?_
      refine St.r (R.move rfl) rfl rfl ?_
      refine St.r (R.add rfl rfl (by omega) (by omega)) rfl rfl ?_
      refine St.r (R.assign rfl) rfl rfl ?_
      refine St.nil ?_
      refine St.weak [(0, _), (1, _), (2, _), (10, _), (12, _), (13, _)] ⟨rfl, rfl, rfl, rfl, rfl, rfl, trivial⟩ ?_
      refine St.then_n ?_
      refine St.round (k + 1, v94) ⟨rfl, rfl, rfl, rfl, rfl, rfl, trivial⟩ ?_ ?_
      · try dsimp only
        exact ⟨by omega, E, F, o10, by rw [wantTo_snoc hp]; exact o12⟩
      · try dsimp only
        omega
    ·
      obtain rfl : k = cm.parents.length := by omega
      obtain ⟨wA, wc, rfl, hw1, hw2⟩ := o12.form
      obtain ⟨xA, xc, rfl, hx1, hx2⟩ := o10.form
      have r10 := o10.reads encInt_len
      have r12 := o12.reads encInt_len
      clear o10 o12
      refine St.exit ?_
      refine St.then_x ?_
      refine St.then_x ?_
      refine St.in_x ?_
      refine St.then_n ?_
      refine St.go hK10 ?_
      clear hK10
      refine St.seq fun K18 hK18 => ?_
      refine St.seq fun K19 hK19 => ?_
      refine St.region ?_
      refine St.r (R.assign rfl) rfl rfl ?_
      refine St.nil ?_
      refine St.weak [(0, _), (1, _), (2, _), (10, _), (12, _), (16, _)] ⟨rfl, rfl, rfl, rfl, rfl, rfl, trivial⟩ ?_
      refine St.then_n ?_
      refine St.go hK19 ?_
      clear hK19
      refine St.block ?_
      refine St.loop (fun (k : Nat) => [(0, .slice (some ⟨vb, vo, none⟩) ls.length vc), (1, .int .i64 (an : Int)), (2, .int .i64 b), (10, .slice xA (ancList ls (an : Int)).length xc), (12, .slice wA (wantTo ls (an : Int) cm cm.parents.length).length wc), (16, .int .i64 (k : Int))])
          (fun (k : Nat) w => k ≤ (wantTo ls (an : Int) cm cm.parents.length).length ∧ Ext w0 w ∧ RInts w (.slice xA (ancList ls (an : Int)).length xc) (ancList ls (an : Int)) ∧ RInts w (.slice wA (wantTo ls (an : Int) cm cm.parents.length).length wc) (wantTo ls (an : Int) cm cm.parents.length))
          (fun (k : Nat) => (wantTo ls (an : Int) cm cm.parents.length).length - k) 0 ⟨rfl, rfl, rfl, rfl, rfl, rfl, trivial⟩ ?_ ?_
      · exact ⟨Nat.zero_le _, E, r10, r12⟩
      rintro k w ⟨hk, E, r10, r12⟩
      show St _ _ [(0, .slice (some ⟨vb, vo, none⟩) ls.length vc), (1, .int .i64 (an : Int)), (2, .int .i64 b), (10, .slice xA (ancList ls (an : Int)).length xc), (12, .slice wA (wantTo ls (an : Int) cm cm.parents.length).length wc), (16, .int .i64 (k : Int))] _ _
      refine St.seq fun K20 hK20 => ?_
      refine St.seq fun K21 hK21 => ?_
      refine St.region ?_
      refine St.r (R.move rfl) rfl rfl ?_
      refine St.r (R.move rfl) rfl rfl ?_
      refine St.r (R.lenSl Try.underlying23 rfl) rfl rfl ?_
      refine St.r (R.lss rfl rfl) rfl rfl ?_
      refine St.nil ?_
      refine St.weak [(0, _), (1, _), (2, _), (10, _), (12, _), (16, _), (98, _)] ⟨rfl, rfl, rfl, rfl, rfl, rfl, rfl, trivial⟩ ?_
      refine St.then_n ?_
      refine St.go hK21 ?_
      clear hK21
      refine St.condD rfl (fun h98 => ?_) (fun h98 => ?_)
      ·
        obtain ⟨x, hx⟩ := get_of_lt (xs := wantTo ls (an : Int) cm cm.parents.length) (k := k) (by omega)
        obtain ⟨wb, wo, rfl, hxc⟩ := r12.get' hx
        have hin := any_eq_mem.2 ((mem_want h64 hcm).1 (List.mem_of_getElem? hx))
        refine St.skip ?_
        refine St.then_n ?_
        refine St.go hK20 ?_
        clear hK20
        refine St.seq fun K22 hK22 => ?_
        refine St.block ?_
        refine St.seq fun K23 hK23 => ?_
        refine St.region ?_
        refine St.r (R.move rfl) rfl rfl ?_
        refine St.r (R.move rfl) rfl rfl ?_
        refine St.r (R.move rfl) rfl rfl ?_
        refine St.r (R.indexS k Try.underlying23 Try.sizeOf3 rfl rfl rfl (by omega)) rfl rfl ?_
        refine St.r (R.load1 Try.isAgg3 rfl (hxc.at 0 rfl)) rfl rfl ?_
        refine St.call rfl rfl ent9 (In_ret _ r10) rfl ?_
        rintro r106 w106 ⟨rfl, e106⟩
        replace E := Ext.trans E e106
        replace r10 := r10.ext (REnc.firm _) e106
        replace r12 := r12.ext (REnc.firm _) e106
        refine St.r (R.assign rfl) rfl rfl ?_
        refine St.nil ?_
        refine St.weak [(0, _), (1, _), (2, _), (10, _), (12, _), (16, _), (17, _)] ⟨rfl, rfl, rfl, rfl, rfl, rfl, rfl, trivial⟩ ?_
        refine St.then_n ?_
        refine St.go hK23 ?_
        clear hK23
        refine St.seq fun K24 hK24 => ?_
        refine St.region ?_
        refine St.r (R.move rfl) rfl rfl ?_
        refine St.r (Runs.lit (c := false) (R.not rfl) (by rw [hin]; rfl)) rfl rfl ?_
        refine St.nil ?_
        refine St.weak [(0, _), (1, _), (2, _), (10, _), (12, _), (16, _), (108, _)] ⟨rfl, rfl, rfl, rfl, rfl, rfl, rfl, trivial⟩ ?_
        refine St.then_n ?_
        refine St.go hK24 ?_
        clear hK24
        refine St.condF rfl ?_
        refine St.skip ?_
        refine St.in_n ?_
        refine St.then_n ?_
        refine St.go hK22 ?_
        clear hK22
        refine St.region ?_
        refine St.r (R.move rfl) rfl rfl ?_
        refine St.r (R.add rfl rfl (by omega) (by omega)) rfl rfl ?_
        refine St.r (R.assign rfl) rfl rfl ?_
        refine St.nil ?_
        refine St.weak [(0, _), (1, _), (2, _), (10, _), (12, _), (16, _)] ⟨rfl, rfl, rfl, rfl, rfl, rfl, trivial⟩ ?_
        refine St.then_n ?_
        refine St.round (k + 1) ⟨rfl, rfl, rfl, rfl, rfl, rfl, trivial⟩ ?_ ?_
        · exact ⟨by omega, E, r10, r12⟩
        · omega
      ·
        refine St.exit ?_
        refine St.then_x ?_
        refine St.then_x ?_
        refine St.in_x ?_
        refine St.then_n ?_
        refine St.go hK18 ?_
        clear hK18
        refine St.seq fun K25 hK25 => ?_
        refine St.seq fun K26 hK26 => ?_
        refine St.region ?_
        refine St.r (R.assign rfl) rfl rfl ?_
        refine St.nil ?_
        refine St.weak [(0, _), (1, _), (2, _), (10, _), (12, _), (18, _)] ⟨rfl, rfl, rfl, rfl, rfl, rfl, trivial⟩ ?_
        refine St.then_n ?_
        refine St.go hK26 ?_
        clear hK26
        refine St.block ?_
        refine St.loop (fun (k : Nat) => [(0, .slice (some ⟨vb, vo, none⟩) ls.length vc), (1, .int .i64 (an : Int)), (2, .int .i64 b), (10, .slice xA (ancList ls (an : Int)).length xc), (12, .slice wA (wantTo ls (an : Int) cm cm.parents.length).length wc), (18, .int .i64 (k : Int))])
            (fun (k : Nat) w => k ≤ (ancList ls (an : Int)).length ∧ Ext w0 w ∧ RInts w (.slice xA (ancList ls (an : Int)).length xc) (ancList ls (an : Int)) ∧ RInts w (.slice wA (wantTo ls (an : Int) cm cm.parents.length).length wc) (wantTo ls (an : Int) cm cm.parents.length))
            (fun (k : Nat) => (ancList ls (an : Int)).length - k) 0 ⟨rfl, rfl, rfl, rfl, rfl, rfl, trivial⟩ ?_ ?_
        · exact ⟨Nat.zero_le _, E, r10, r12⟩
        rintro k w ⟨hk, E, r10, r12⟩
        show St _ _ [(0, .slice (some ⟨vb, vo, none⟩) ls.length vc), (1, .int .i64 (an : Int)), (2, .int .i64 b), (10, .slice xA (ancList ls (an : Int)).length xc), (12, .slice wA (wantTo ls (an : Int) cm cm.parents.length).length wc), (18, .int .i64 (k : Int))] _ _
        refine St.seq fun K27 hK27 => ?_
        refine St.seq fun K28 hK28 => ?_
        refine St.region ?_
        refine St.r (R.move rfl) rfl rfl ?_
        refine St.r (R.move rfl) rfl rfl ?_
        refine St.r (R.lenSl Try.underlying23 rfl) rfl rfl ?_
        refine St.r (R.lss rfl rfl) rfl rfl ?_
        refine St.nil ?_
        refine St.weak [(0, _), (1, _), (2, _), (10, _), (12, _), (18, _), (112, _)] ⟨rfl, rfl, rfl, rfl, rfl, rfl, rfl, trivial⟩ ?_
        refine St.then_n ?_
        refine St.go hK28 ?_
        clear hK28
        refine St.condD rfl (fun h112 => ?_) (fun h112 => ?_)
        ·
          obtain ⟨x, hx⟩ := get_of_lt (xs := ancList ls (an : Int)) (k := k) (by omega)
          obtain ⟨xb, xo, rfl, hxc⟩ := r10.get' hx
          have hin := any_eq_mem.2 ((mem_want h64 hcm).2 (List.mem_of_getElem? hx))
          have G := Ext.refl w
          refine St.skip ?_
          refine St.then_n ?_
          refine St.go hK27 ?_
          clear hK27
          refine St.seq fun K29 hK29 => ?_
          refine St.block ?_
          refine St.seq fun K30 hK30 => ?_
          refine St.region ?_
          refine St.r (R.move rfl) rfl rfl ?_
          refine St.r (R.move rfl) rfl rfl ?_
          refine St.r (R.move rfl) rfl rfl ?_
          refine St.r (R.indexS k Try.underlying23 Try.sizeOf3 rfl rfl rfl (by omega)) rfl rfl ?_
          refine St.r (R.load1 Try.isAgg3 rfl (hxc.at 0 rfl)) rfl rfl ?_
          refine St.call rfl rfl ent9 (In_ret _ r12) rfl ?_
          rintro r120 w120 ⟨rfl, e120⟩
          replace E := Ext.trans E e120
          replace G := Ext.trans G e120
          replace r10 := r10.ext (REnc.firm _) e120
          replace r12 := r12.ext (REnc.firm _) e120
          refine St.r (R.assign rfl) rfl rfl ?_
          refine St.nil ?_
          refine St.weak [(0, _), (1, _), (2, _), (10, _), (12, _), (18, _), (19, _)] ⟨rfl, rfl, rfl, rfl, rfl, rfl, rfl, trivial⟩ ?_
          refine St.then_n ?_
          refine St.go hK30 ?_
          clear hK30
          refine St.seq fun K31 hK31 => ?_
          by_cases h125 : 0 < (k : Int)
          ·
            obtain ⟨x', hx'⟩ := get_of_lt (xs := ancList ls (an : Int)) (k := k - 1) (by omega)
            have hxc' := r10.get hx'
            have hlt : x' < x := sorted_step (ancList_sorted ls an) hx' (by rw [show k - 1 + 1 = k by omega]; exact hx)
            refine St.weak [(0, _), (1, _), (2, _), (10, _), (12, _), (18, _), (19, _)] ⟨rfl, rfl, rfl, rfl, rfl, rfl, rfl, trivial⟩ ?_
            refine St.draw mixed rfl rfl rfl rfl ?_
            replace E := Ext.trans E (Ext.drew _)
            replace G := Ext.trans G (Ext.drew _)
            replace r10 := r10.ext (REnc.firm _) (Ext.drew _)
            replace r12 := r12.ext (REnc.firm _) (Ext.drew _)
            refine ⟨_, OpOk.r (R.move rfl) rfl, ?_⟩
            refine ⟨_, OpOk.r (Runs.lit (c := false) (R.not rfl) (by rw [hin]; rfl)) rfl, ?_⟩
            refine ⟨_, OpOk.r (R.move rfl) rfl, ?_⟩
            refine ⟨_, OpOk.take (dg := 123) (R.move rfl) rfl rfl rfl rfl, ?_⟩
            refine ⟨_, OpOk.take (dg := 123) (Runs.lit (c := true) (R.gtr rfl rfl) (decide_eq_true h125)) rfl rfl rfl rfl, ?_⟩
            refine ⟨_, OpOk.take (dg := 123) (R.move rfl) rfl rfl rfl rfl, ?_⟩
            refine ⟨_, OpOk.take (dg := 126) (R.move rfl) rfl rfl rfl rfl, ?_⟩
            refine ⟨_, OpOk.take (dg := 126) (R.move rfl) rfl rfl rfl rfl, ?_⟩
            refine ⟨_, OpOk.take (dg := 126) (R.sub rfl rfl (by omega) (by omega)) rfl rfl rfl rfl, ?_⟩
            refine ⟨_, OpOk.take (dg := 126) (R.indexS (k - 1) Try.underlying23 Try.sizeOf3 rfl rfl (by omega) (by omega)) rfl rfl rfl rfl, ?_⟩
            refine ⟨_, OpOk.take (dg := 126) (R.load1 Try.isAgg3 rfl (((Ext.drew _).cells hxc').at 0 rfl)) rfl rfl rfl rfl, ?_⟩
            refine ⟨_, OpOk.take (dg := 126) (R.move rfl) rfl rfl rfl rfl, ?_⟩
            refine ⟨_, OpOk.take (dg := 126) (R.move rfl) rfl rfl rfl rfl, ?_⟩
            refine ⟨_, OpOk.take (dg := 126) (R.indexS k Try.underlying23 Try.sizeOf3 rfl rfl rfl (by omega)) rfl rfl rfl rfl, ?_⟩
            refine ⟨_, OpOk.take (dg := 126) (R.load1 Try.isAgg3 rfl ((G.cells hxc).at 0 rfl)) rfl rfl rfl rfl, ?_⟩
            refine ⟨_, OpOk.take (dg := 126) (Runs.lit (c := false) (R.geq rfl rfl) (decide_eq_false (by omega))) rfl rfl rfl rfl, ?_⟩
            refine ⟨_, OpOk.take (dg := 123) (R.pickT rfl rfl) rfl rfl rfl rfl, ?_⟩
            refine ⟨_, OpOk.r (R.pickF rfl rfl) rfl, ?_⟩
            show St _ _ _ _ _
            refine St.weak [(0, _), (1, _), (2, _), (10, _), (12, _), (18, _), (138, _)] ⟨rfl, rfl, rfl, rfl, rfl, rfl, rfl, trivial⟩ ?_
            refine St.then_n ?_
            refine St.go hK31 ?_
            clear hK31
            refine St.condF rfl ?_
            refine St.skip ?_
            refine St.in_n ?_
            refine St.then_n ?_
            refine St.go hK29 ?_
            clear hK29
            refine St.region ?_
            refine St.r (R.move rfl) rfl rfl ?_
            refine St.r (R.add rfl rfl (by omega) (by omega)) rfl rfl ?_
            refine St.r (R.assign rfl) rfl rfl ?_
            refine St.nil ?_
            refine St.weak [(0, _), (1, _), (2, _), (10, _), (12, _), (18, _)] ⟨rfl, rfl, rfl, rfl, rfl, rfl, trivial⟩ ?_
            refine St.then_n ?_
            refine St.round (k + 1) ⟨rfl, rfl, rfl, rfl, rfl, rfl, trivial⟩ ?_ ?_
            · exact ⟨by omega, E, r10, r12⟩
            · omega
          ·
            refine St.weak [(0, _), (1, _), (2, _), (10, _), (12, _), (18, _), (19, _)] ⟨rfl, rfl, rfl, rfl, rfl, rfl, rfl, trivial⟩ ?_
            refine St.draw mixed rfl rfl rfl rfl ?_
            replace E := Ext.trans E (Ext.drew _)
            replace G := Ext.trans G (Ext.drew _)
            replace r10 := r10.ext (REnc.firm _) (Ext.drew _)
            replace r12 := r12.ext (REnc.firm _) (Ext.drew _)
            refine ⟨_, OpOk.r (R.move rfl) rfl, ?_⟩
            refine ⟨_, OpOk.r (Runs.lit (c := false) (R.not rfl) (by rw [hin]; rfl)) rfl, ?_⟩
            refine ⟨_, OpOk.r (R.move rfl) rfl, ?_⟩
            refine ⟨_, OpOk.take (dg := 123) (R.move rfl) rfl rfl rfl rfl, ?_⟩
            refine ⟨_, OpOk.take (dg := 123) (Runs.lit (c := false) (R.gtr rfl rfl) (decide_eq_false h125)) rfl rfl rfl rfl, ?_⟩
            refine ⟨_, OpOk.take (dg := 123) (R.move rfl) rfl rfl rfl rfl, ?_⟩
            refine ⟨_, OpOk.pass (dg := 126) rfl rfl rfl rfl rfl, ?_⟩
            refine ⟨_, OpOk.pass (dg := 126) rfl rfl rfl rfl rfl, ?_⟩
            refine ⟨_, OpOk.pass (dg := 126) rfl rfl rfl rfl rfl, ?_⟩
            refine ⟨_, OpOk.pass (dg := 126) rfl rfl rfl rfl rfl, ?_⟩
            refine ⟨_, OpOk.pass (dg := 126) rfl rfl rfl rfl rfl, ?_⟩
            refine ⟨_, OpOk.pass (dg := 126) rfl rfl rfl rfl rfl, ?_⟩
            refine ⟨_, OpOk.pass (dg := 126) rfl rfl rfl rfl rfl, ?_⟩
            refine ⟨_, OpOk.pass (dg := 126) rfl rfl rfl rfl rfl, ?_⟩
            refine ⟨_, OpOk.pass (dg := 126) rfl rfl rfl rfl rfl, ?_⟩
            refine ⟨_, OpOk.pass (dg := 126) rfl rfl rfl rfl rfl, ?_⟩
            refine ⟨_, OpOk.take (dg := 123) (R.pickF rfl rfl) rfl rfl rfl rfl, ?_⟩
            refine ⟨_, OpOk.r (R.pickF rfl rfl) rfl, ?_⟩
            show St _ _ _ _ _
            refine St.weak [(0, _), (1, _), (2, _), (10, _), (12, _), (18, _), (138, _)] ⟨rfl, rfl, rfl, rfl, rfl, rfl, rfl, trivial⟩ ?_
            refine St.then_n ?_
            refine St.go hK31 ?_
            clear hK31
            refine St.condF rfl ?_
            refine St.skip ?_
            refine St.in_n ?_
            refine St.then_n ?_
            refine St.go hK29 ?_
            clear hK29
            refine St.region ?_
            refine St.r (R.move rfl) rfl rfl ?_
            refine St.r (R.add rfl rfl (by omega) (by omega)) rfl rfl ?_
            refine St.r (R.assign rfl) rfl rfl ?_
            refine St.nil ?_
            refine St.weak [(0, _), (1, _), (2, _), (10, _), (12, _), (18, _)] ⟨rfl, rfl, rfl, rfl, rfl, rfl, trivial⟩ ?_
            refine St.then_n ?_
            refine St.round (k + 1) ⟨rfl, rfl, rfl, rfl, rfl, rfl, trivial⟩ ?_ ?_
            · exact ⟨by omega, E, r10, r12⟩
            · omega
        ·
          refine St.exit ?_
          refine St.then_x ?_
          refine St.then_x ?_
          refine St.in_x ?_
          refine St.then_n ?_
          refine St.go hK25 ?_
          clear hK25
          refine St.seq fun K32 hK32 => ?_
          refine St.region ?_
          refine St.r (R.move rfl) rfl rfl ?_
          refine St.r (R.move rfl) rfl rfl ?_
          refine St.r (R.move rfl) rfl rfl ?_
          refine St.call rfl rfl ent7 (Bases_ret _ (hv.ext RCommit.firm E)) rfl ?_
          rintro r143 w143 ⟨sv143, rfl, r20, e143⟩
          replace E := Ext.trans E e143
          replace r10 := r10.ext (REnc.firm _) e143
          replace r12 := r12.ext (REnc.firm _) e143
          refine St.r (R.move rfl) rfl rfl ?_
          refine St.r (R.extract rfl rfl) rfl rfl ?_
          refine St.r (R.extract rfl rfl) rfl rfl ?_
          refine St.r (R.assign rfl) rfl rfl ?_
          refine St.r (R.assign rfl) rfl rfl ?_
          refine St.nil ?_
          refine St.weak [(0, _), (1, _), (2, _), (11, _), (20, _)] ⟨rfl, rfl, rfl, rfl, rfl, trivial⟩ ?_
          refine St.then_n ?_
          refine St.go hK32 ?_
          clear hK32
          refine St.seq fun K33 hK33 => ?_
          refine St.seq fun K34 hK34 => ?_
          refine St.region ?_
          refine St.r (R.move rfl) rfl rfl ?_
          refine St.r (R.notNil (et := 91) (e := _) Try.underlying27 rfl) rfl rfl ?_
          refine St.nil ?_
          refine St.weak [(0, _), (1, _), (2, _), (20, _), (147, _)] ⟨rfl, rfl, rfl, rfl, rfl, trivial⟩ ?_
          refine St.then_n ?_
          refine St.go hK34 ?_
          clear hK34
          refine St.cond rfl (fun h147 => ?_) (fun h147 => ?_)
          ·
            refine St.seq fun K35 hK35 => ?_
            refine St.region ?_
            refine St.r (R.assign rfl) rfl rfl ?_
            refine St.nil ?_
            refine St.weak [(6, _)] ⟨rfl, trivial⟩ ?_
            refine St.then_n ?_
            refine St.go hK35 ?_
            clear hK35
            refine St.ret ?_
            refine St.then_r ?_
            refine St.ret1 Try.results3 rfl ?_
            exact ⟨_, rfl, rfl, E⟩
          ·
            have hnb := (ready_ok h147).2.2 b (by simp)
            obtain ⟨bn, rfl⟩ : ∃ n : Nat, b = (n : Int) := ⟨b.toNat, by omega⟩
            obtain ⟨bA, bc, rfl, hb1, hb2⟩ := r20.form
            refine St.skip ?_
            refine St.then_n ?_
            refine St.go hK33 ?_
            clear hK33
            refine St.seq fun K36 hK36 => ?_
            refine St.seq fun K37 hK37 => ?_
            refine St.region ?_
            refine St.r (R.assign rfl) rfl rfl ?_
            refine St.nil ?_
            refine St.weak [(0, _), (1, _), (2, _), (20, _), (21, _)] ⟨rfl, rfl, rfl, rfl, rfl, trivial⟩ ?_
            refine St.then_n ?_
            refine St.go hK37 ?_
            clear hK37
            refine St.block ?_
            refine St.loop (fun (i : Nat) => [(0, .slice (some ⟨vb, vo, none⟩) ls.length vc), (1, .int .i64 (an : Int)), (2, .int .i64 (bn : Int)), (20, .slice bA (baseList ls (an : Int) (bn : Int)).length bc), (21, .int .i64 (i : Int))])
                (fun (i : Nat) w => i ≤ (baseList ls (an : Int) (bn : Int)).length ∧ Ext w0 w ∧ RInts w (.slice bA (baseList ls (an : Int) (bn : Int)).length bc) (baseList ls (an : Int) (bn : Int)))
                (fun (i : Nat) => (baseList ls (an : Int) (bn : Int)).length - i) 0 ⟨rfl, rfl, rfl, rfl, rfl, trivial⟩ ?_ ?_
            · exact ⟨Nat.zero_le _, E, r20⟩
            rintro i w ⟨hi, E, r20⟩
            show St _ _ [(0, .slice (some ⟨vb, vo, none⟩) ls.length vc), (1, .int .i64 (an : Int)), (2, .int .i64 (bn : Int)), (20, .slice bA (baseList ls (an : Int) (bn : Int)).length bc), (21, .int .i64 (i : Int))] _ _
            refine St.seq fun K38 hK38 => ?_
            refine St.seq fun K39 hK39 => ?_
            refine St.region ?_
            refine St.r (R.move rfl) rfl rfl ?_
            refine St.r (R.move rfl) rfl rfl ?_
            refine St.r (R.lenSl Try.underlying23 rfl) rfl rfl ?_
            refine St.r (R.lss rfl rfl) rfl rfl ?_
            refine St.nil ?_
            refine St.weak [(0, _), (1, _), (2, _), (20, _), (21, _), (151, _)] ⟨rfl, rfl, rfl, rfl, rfl, rfl, trivial⟩ ?_
            refine St.then_n ?_
            refine St.go hK39 ?_
            clear hK39
            refine St.condD rfl (fun h151 => ?_) (fun h151 => ?_)
            ·
              obtain ⟨x, hx⟩ := get_of_lt (xs := baseList ls (an : Int) (bn : Int)) (k := i) (by omega)
              obtain ⟨xb, xo, rfl, hxc⟩ := r20.get' hx
              obtain ⟨q1, q2, q3, q4⟩ := base_of h147 (List.mem_of_getElem? hx)
              have G := Ext.refl w
              refine St.skip ?_
              refine St.then_n ?_
              refine St.go hK38 ?_
              clear hK38
              refine St.seq fun K40 hK40 => ?_
              refine St.block ?_
              refine St.seq fun K41 hK41 => ?_
              refine St.region ?_
              refine St.r (R.move rfl) rfl rfl ?_
              refine St.r (R.move rfl) rfl rfl ?_
              refine St.r (R.move rfl) rfl rfl ?_
              refine St.r (R.indexS i Try.underlying23 Try.sizeOf3 rfl rfl rfl (by omega)) rfl rfl ?_
              refine St.r (R.load1 Try.isAgg3 rfl (hxc.at 0 rfl)) rfl rfl ?_
              refine St.r (R.move rfl) rfl rfl ?_
              refine St.call rfl rfl ent10 (Is_ret _ (hv.ext RCommit.firm E)) rfl ?_
              rintro r161 w161 ⟨rfl, e161⟩
              replace E := Ext.trans E e161
              replace G := Ext.trans G e161
              replace r20 := r20.ext (REnc.firm _) e161
              refine St.r (R.move rfl) rfl rfl ?_
              refine St.r (R.extract rfl rfl) rfl rfl ?_
              refine St.r (R.extract rfl rfl) rfl rfl ?_
              refine St.r (R.assign rfl) rfl rfl ?_
              refine St.r (R.assign rfl) rfl rfl ?_
              refine St.nil ?_
              refine St.weak [(0, _), (1, _), (2, _), (20, _), (21, _), (22, _), (23, _)] ⟨rfl, rfl, rfl, rfl, rfl, rfl, rfl, trivial⟩ ?_
              refine St.then_n ?_
              refine St.go hK41 ?_
              clear hK41
              refine St.seq fun K42 hK42 => ?_
              refine St.region ?_
              refine St.r (R.move rfl) rfl rfl ?_
              refine St.r (R.move rfl) rfl rfl ?_
              refine St.r (R.move rfl) rfl rfl ?_
              refine St.r (R.indexS i Try.underlying23 Try.sizeOf3 rfl rfl rfl (by omega)) rfl rfl ?_
              refine St.r (R.load1 Try.isAgg3 rfl ((G.cells hxc).at 0 rfl)) rfl rfl ?_
              refine St.r (R.move rfl) rfl rfl ?_
              refine St.call rfl rfl ent10 (Is_ret _ (hv.ext RCommit.firm E)) rfl ?_
              rintro r171 w171 ⟨rfl, e171⟩
              replace E := Ext.trans E e171
              replace G := Ext.trans G e171
              replace r20 := r20.ext (REnc.firm _) e171
              refine St.r (R.move rfl) rfl rfl ?_
              refine St.r (R.extract rfl rfl) rfl rfl ?_
              refine St.r (R.extract rfl rfl) rfl rfl ?_
              refine St.r (R.assign rfl) rfl rfl ?_
              refine St.r (R.assign rfl) rfl rfl ?_
              refine St.nil ?_
              refine St.weak [(0, _), (1, _), (2, _), (20, _), (21, _), (22, _), (23, _), (24, _), (25, _)] ⟨rfl, rfl, rfl, rfl, rfl, rfl, rfl, rfl, rfl, trivial⟩ ?_
              refine St.then_n ?_
              refine St.go hK42 ?_
              clear hK42
              refine St.seq fun K43 hK43 => ?_
              refine St.seq fun K44 hK44 => ?_
              refine St.region ?_
              refine St.r (R.move rfl) rfl rfl ?_
              refine St.r (Runs.lit (c := false) (R.notNil (et := 91) (e := _) Try.underlying27 rfl) (q1)) rfl rfl ?_
              refine St.r (R.move rfl) rfl rfl ?_
              refine St.take (dg := 176) rfl rfl ?_ rfl
              refine St.r (R.move rfl) rfl rfl ?_
              refine St.take (dg := 176) rfl rfl ?_ rfl
              refine St.r (Runs.lit (c := false) (R.notNil (et := 91) (e := _) Try.underlying27 rfl) (q2)) rfl rfl ?_
              refine St.r (R.pickF rfl rfl) rfl rfl ?_
              refine St.r (R.move rfl) rfl rfl ?_
              refine St.take (dg := 180) rfl rfl ?_ rfl
              refine St.r (R.move rfl) rfl rfl ?_
              refine St.take (dg := 180) rfl rfl ?_ rfl
              refine St.r (Runs.lit (c := false) (R.not rfl) (by rw [q3]; rfl)) rfl rfl ?_
              refine St.r (R.pickF rfl rfl) rfl rfl ?_
              refine St.r (R.move rfl) rfl rfl ?_
              refine St.take (dg := 184) rfl rfl ?_ rfl
              refine St.r (R.move rfl) rfl rfl ?_
              refine St.take (dg := 184) rfl rfl ?_ rfl
              refine St.r (Runs.lit (c := false) (R.not rfl) (by rw [q4]; rfl)) rfl rfl ?_
              refine St.r (R.pickF rfl rfl) rfl rfl ?_
              refine St.nil ?_
              refine St.weak [(0, _), (1, _), (2, _), (20, _), (21, _), (187, _)] ⟨rfl, rfl, rfl, rfl, rfl, rfl, trivial⟩ ?_
              refine St.then_n ?_
              refine St.go hK44 ?_
              clear hK44
              refine St.condF rfl ?_
              refine St.skip ?_
              refine St.then_n ?_
              refine St.go hK43 ?_
              clear hK43
              refine St.seq fun K45 hK45 => ?_
              refine St.region ?_
              refine St.r (R.assign rfl) rfl rfl ?_
              refine St.nil ?_
              refine St.weak [(0, _), (1, _), (2, _), (20, _), (21, _), (26, _)] ⟨rfl, rfl, rfl, rfl, rfl, rfl, trivial⟩ ?_
              refine St.then_n ?_
              refine St.go hK45 ?_
              clear hK45
              refine St.block ?_
              refine St.loop (fun (j : Nat) => [(0, .slice (some ⟨vb, vo, none⟩) ls.length vc), (1, .int .i64 (an : Int)), (2, .int .i64 (bn : Int)), (20, .slice (some ⟨xb, xo, none⟩) (baseList ls (an : Int) (bn : Int)).length bc), (21, .int .i64 (i : Int)), (26, .int .i64 (j : Int))])
                  (fun (j : Nat) w => j ≤ (baseList ls (an : Int) (bn : Int)).length ∧ Ext w0 w ∧ RInts w (.slice (some ⟨xb, xo, none⟩) (baseList ls (an : Int) (bn : Int)).length bc) (baseList ls (an : Int) (bn : Int)))
                  (fun (j : Nat) => (baseList ls (an : Int) (bn : Int)).length - j) 0 ⟨rfl, rfl, rfl, rfl, rfl, rfl, trivial⟩ ?_ ?_
              · exact ⟨Nat.zero_le _, E, r20⟩
              rintro j w8 ⟨hj, E, r20⟩
              show St _ _ [(0, .slice (some ⟨vb, vo, none⟩) ls.length vc), (1, .int .i64 (an : Int)), (2, .int .i64 (bn : Int)), (20, .slice (some ⟨xb, xo, none⟩) (baseList ls (an : Int) (bn : Int)).length bc), (21, .int .i64 (i : Int)), (26, .int .i64 (j : Int))] _ _
              refine St.seq fun K46 hK46 => ?_
              refine St.seq fun K47 hK47 => ?_
              refine St.region ?_
              refine St.r (R.move rfl) rfl rfl ?_
              refine St.r (R.move rfl) rfl rfl ?_
              refine St.r (R.lenSl Try.underlying23 rfl) rfl rfl ?_
              refine St.r (R.lss rfl rfl) rfl rfl ?_
              refine St.nil ?_
              refine St.weak [(0, _), (1, _), (2, _), (20, _), (21, _), (26, _), (191, _)] ⟨rfl, rfl, rfl, rfl, rfl, rfl, rfl, trivial⟩ ?_
              refine St.then_n ?_
              refine St.go hK47 ?_
              clear hK47
              refine St.condD rfl (fun h191 => ?_) (fun h191 => ?_)
              ·
                obtain ⟨y, hy⟩ := get_of_lt (xs := baseList ls (an : Int) (bn : Int)) (k := j) (by omega)
                obtain ⟨q5, q6⟩ := base_is h147 hx hy
                have hx8 := r20.get hx
                have hy8 := r20.get hy
                have H := Ext.refl w8
                refine St.skip ?_
                refine St.then_n ?_
                refine St.go hK46 ?_
                clear hK46
                refine St.seq fun K48 hK48 => ?_
                refine St.block ?_
                refine St.seq fun K49 hK49 => ?_
                refine St.weak [(0, _), (1, _), (2, _), (20, _), (21, _), (26, _)] ⟨rfl, rfl, rfl, rfl, rfl, rfl, trivial⟩ ?_
                refine St.drawX mixed rfl rfl rfl rfl ?_
                replace E := Ext.trans E (Ext.drew _)
                replace H := Ext.trans H (Ext.drew _)
                replace r20 := r20.ext (REnc.firm _) (Ext.drew _)
                refine ⟨_, fun W eW => OpX.q (OpOk.r (R.move rfl) rfl), ?_⟩
                refine ⟨_, fun W eW => OpX.q (OpOk.r (R.move rfl) rfl), ?_⟩
                refine ⟨_, fun W eW => OpX.q (OpOk.r (R.move rfl) rfl), ?_⟩
                refine ⟨_, fun W eW => OpX.q (OpOk.r (R.indexS i Try.underlying23 Try.sizeOf3 rfl rfl rfl (by omega)) rfl), ?_⟩
                refine ⟨_, fun W eW => OpX.q (OpOk.r (R.load1 Try.isAgg3 rfl (((Ext.trans H eW).cells hx8).at 0 rfl)) rfl), ?_⟩
                refine ⟨_, fun W eW => OpX.q (OpOk.r (R.move rfl) rfl), ?_⟩
                refine ⟨_, fun W eW => OpX.q (OpOk.r (R.move rfl) rfl), ?_⟩
                refine ⟨_, fun W eW => OpX.q (OpOk.r (R.indexS j Try.underlying23 Try.sizeOf3 rfl rfl rfl (by omega)) rfl), ?_⟩
                refine ⟨_, fun W eW => OpX.q (OpOk.r (R.load1 Try.isAgg3 rfl (((Ext.trans H eW).cells hy8).at 0 rfl)) rfl), ?_⟩
                refine ⟨_, fun W eW => OpX.call rfl rfl ent10 (Is_ret _ (hv.ext RCommit.firm (Ext.trans E eW))), ?_⟩
                refine ⟨_, fun W eW => OpX.q (OpOk.r (R.move rfl) rfl), ?_⟩
                refine ⟨_, fun W eW => OpX.q (OpOk.r (R.extract rfl rfl) rfl), ?_⟩
                refine ⟨_, fun W eW => OpX.q (OpOk.r (R.extract rfl rfl) rfl), ?_⟩
                refine ⟨_, fun W eW => OpX.q (OpOk.r (R.assign rfl) rfl), ?_⟩
                refine ⟨_, fun W eW => OpX.q (OpOk.r (R.assign rfl) rfl), ?_⟩
                show ∀ w', Ext _ w' → St _ _ _ _ w'
                intro wd41 ed41
                replace E := Ext.trans E ed41
                replace H := Ext.trans H ed41
                replace r20 := r20.ext (REnc.firm _) ed41
                refine St.weak [(0, _), (1, _), (2, _), (20, _), (21, _), (26, _), (27, _), (28, _)] ⟨rfl, rfl, rfl, rfl, rfl, rfl, rfl, rfl, trivial⟩ ?_
                refine St.then_n ?_
                refine St.go hK49 ?_
                clear hK49
                refine St.seq fun K50 hK50 => ?_
                refine St.region ?_
                refine St.r (R.move rfl) rfl rfl ?_
                refine St.r (Runs.lit (c := false) (R.notNil (et := 91) (e := _) Try.underlying27 rfl) (q5)) rfl rfl ?_
                refine St.r (R.move rfl) rfl rfl ?_
                refine St.take (dg := 209) rfl rfl ?_ rfl
                refine St.r (R.move rfl) rfl rfl ?_
                refine St.take (dg := 209) rfl rfl ?_ rfl
                refine St.r (R.move rfl) rfl rfl ?_
                refine St.take (dg := 209) rfl rfl ?_ rfl
                refine St.r (R.move rfl) rfl rfl ?_
                refine St.take (dg := 209) rfl rfl ?_ rfl
                refine St.r (R.eql rfl rfl) rfl rfl ?_
                refine St.take (dg := 209) rfl rfl ?_ rfl
                refine St.r (Runs.lit (c := false) (R.neB Try.underlying4 rfl rfl) (by rw [q6]; simp)) rfl rfl ?_
                refine St.r (R.pickF rfl rfl) rfl rfl ?_
                refine St.nil ?_
                refine St.weak [(0, _), (1, _), (2, _), (20, _), (21, _), (26, _), (215, _)] ⟨rfl, rfl, rfl, rfl, rfl, rfl, rfl, trivial⟩ ?_
                refine St.then_n ?_
                refine St.go hK50 ?_
                clear hK50
                refine St.condF rfl ?_
                refine St.skip ?_
                refine St.in_n ?_
                refine St.then_n ?_
                refine St.go hK48 ?_
                clear hK48
                refine St.region ?_
                refine St.r (R.move rfl) rfl rfl ?_
                refine St.r (R.add rfl rfl (by omega) (by omega)) rfl rfl ?_
                refine St.r (R.assign rfl) rfl rfl ?_
                refine St.nil ?_
                refine St.weak [(0, _), (1, _), (2, _), (20, _), (21, _), (26, _)] ⟨rfl, rfl, rfl, rfl, rfl, rfl, trivial⟩ ?_
                refine St.then_n ?_
                refine St.round (j + 1) ⟨rfl, rfl, rfl, rfl, rfl, rfl, trivial⟩ ?_ ?_
                · exact ⟨by omega, E, r20⟩
                · omega
              ·
                refine St.exit ?_
                refine St.then_x ?_
                refine St.then_x ?_
                refine St.in_x ?_
                refine St.in_n ?_
                refine St.then_n ?_
                refine St.go hK40 ?_
                clear hK40
                refine St.region ?_
                refine St.r (R.move rfl) rfl rfl ?_
                refine St.r (R.add rfl rfl (by omega) (by omega)) rfl rfl ?_
                refine St.r (R.assign rfl) rfl rfl ?_
                refine St.nil ?_
                refine St.weak [(0, _), (1, _), (2, _), (20, _), (21, _)] ⟨rfl, rfl, rfl, rfl, rfl, trivial⟩ ?_
                refine St.then_n ?_
                refine St.round (i + 1) ⟨rfl, rfl, rfl, rfl, rfl, trivial⟩ ?_ ?_
                · exact ⟨by omega, E, r20⟩
                · omega
            ·
              refine St.exit ?_
              refine St.then_x ?_
              refine St.then_x ?_
              refine St.in_x ?_
              refine St.then_n ?_
              refine St.go hK36 ?_
              clear hK36
              refine St.seq fun K51 hK51 => ?_
              refine St.region ?_
              refine St.r (R.move rfl) rfl rfl ?_
              refine St.r (R.move rfl) rfl rfl ?_
              refine St.r (R.move rfl) rfl rfl ?_
              refine St.call rfl rfl ent10 (Is_ret _ (hv.ext RCommit.firm E)) rfl ?_
              rintro r220 w220 ⟨rfl, e220⟩
              replace E := Ext.trans E e220
              replace r20 := r20.ext (REnc.firm _) e220
              refine St.r (R.move rfl) rfl rfl ?_
              refine St.r (R.extract rfl rfl) rfl rfl ?_
              refine St.r (R.extract rfl rfl) rfl rfl ?_
              refine St.r (R.assign rfl) rfl rfl ?_
              refine St.r (R.assign rfl) rfl rfl ?_
              refine St.nil ?_
              refine St.weak [(0, _), (1, _), (2, _), (20, _), (29, _), (30, _)] ⟨rfl, rfl, rfl, rfl, rfl, rfl, trivial⟩ ?_
              refine St.then_n ?_
              refine St.go hK51 ?_
              clear hK51
              refine St.seq fun K52 hK52 => ?_
              refine St.seq fun K53 hK53 => ?_
              rcases Bool.eq_false_or_eq_true (isB ls (an : Int) (bn : Int)) with h226 | h226
              ·
                have hB := base_line h147 ((isB_iff h147).1 h226)
                have hx0 : (baseList ls (an : Int) (bn : Int))[0]? = some (an : Int) := by rw [hB]; rfl
                obtain ⟨lb, lo, rfl, hl⟩ := r20.get' hx0
                refine St.region ?_
                refine St.r (R.move rfl) rfl rfl ?_
                refine St.r (Runs.lit (c := false) (R.notNil (et := 91) (e := _) Try.underlying27 rfl) (h147)) rfl rfl ?_
                refine St.r (R.move rfl) rfl rfl ?_
                refine St.take (dg := 225) rfl rfl ?_ rfl
                refine St.r (Runs.lit (c := true) (R.move rfl) (h226)) rfl rfl ?_
                refine St.take (dg := 225) rfl rfl ?_ rfl
                refine St.r (R.move rfl) rfl rfl ?_
                refine St.take (dg := 227) rfl rfl ?_ rfl
                refine St.r (R.move rfl) rfl rfl ?_
                refine St.take (dg := 227) rfl rfl ?_ rfl
                refine St.r (R.lenSl Try.underlying23 rfl) rfl rfl ?_
                refine St.take (dg := 227) rfl rfl ?_ rfl
                refine St.r (Runs.lit (c := false) (R.neq rfl rfl) (by rw [hB]; simp)) rfl rfl ?_
                refine St.take (dg := 227) rfl rfl ?_ rfl
                refine St.r (R.move rfl) rfl rfl ?_
                refine St.take (dg := 231) rfl rfl ?_ rfl
                refine St.r (R.move rfl) rfl rfl ?_
                refine St.take (dg := 231) rfl rfl ?_ rfl
                refine St.r (R.indexS 0 Try.underlying23 Try.sizeOf3 rfl rfl rfl (by rw [hB]; simp)) rfl rfl ?_
                refine St.take (dg := 231) rfl rfl ?_ rfl
                refine St.r (R.load1 Try.isAgg3 rfl (hl.at 0 rfl)) rfl rfl ?_
                refine St.take (dg := 231) rfl rfl ?_ rfl
                refine St.r (R.move rfl) rfl rfl ?_
                refine St.take (dg := 231) rfl rfl ?_ rfl
                refine St.r (Runs.lit (c := false) (R.neq rfl rfl) (by simp)) rfl rfl ?_
                refine St.take (dg := 227) rfl rfl ?_ rfl
                refine St.r (R.pickF rfl rfl) rfl rfl ?_
                refine St.take (dg := 225) rfl rfl ?_ rfl
                refine St.r (R.pickT rfl rfl) rfl rfl ?_
                refine St.r (R.pickF rfl rfl) rfl rfl ?_
                refine St.nil ?_
                refine St.weak [(0, _), (1, _), (2, _), (20, _), (239, _)] ⟨rfl, rfl, rfl, rfl, rfl, trivial⟩ ?_
                refine St.then_n ?_
                refine St.go hK53 ?_
                clear hK53
                refine St.condF rfl ?_
                refine St.skip ?_
                refine St.then_n ?_
                refine St.go hK52 ?_
                clear hK52
                refine St.seq fun K54 hK54 => ?_
                refine St.region ?_
                refine St.r (R.move rfl) rfl rfl ?_
                refine St.r (R.move rfl) rfl rfl ?_
                refine St.r (R.move rfl) rfl rfl ?_
                refine St.call rfl rfl ent7 (Bases_ret _ (hv.ext RCommit.firm E)) rfl ?_
                rintro r244 w244 ⟨sv244, rfl, r31, e244⟩
                replace E := Ext.trans E e244
                replace r20 := r20.ext (REnc.firm _) e244
                refine St.r (R.move rfl) rfl rfl ?_
                refine St.r (R.extract rfl rfl) rfl rfl ?_
                refine St.r (R.extract rfl rfl) rfl rfl ?_
                refine St.r (R.assign rfl) rfl rfl ?_
                refine St.r (R.assign rfl) rfl rfl ?_
                refine St.nil ?_
                refine St.weak [(20, _), (30, _), (31, _)] ⟨rfl, rfl, rfl, trivial⟩ ?_
                refine St.then_n ?_
                refine St.go hK54 ?_
                clear hK54
                refine St.seq fun K55 hK55 => ?_
                refine St.region ?_
                refine St.r (R.move rfl) rfl rfl ?_
                refine St.r (R.move rfl) rfl rfl ?_
                refine St.call rfl rfl ent11 (Ints_ret _ r31 r20) rfl ?_
                rintro r249 w249 ⟨rfl, e249⟩
                replace E := Ext.trans E e249
                replace r20 := r20.ext (REnc.firm _) e249
                replace r31 := r31.ext (REnc.firm _) e249
                refine St.r (R.assign rfl) rfl rfl ?_
                refine St.nil ?_
                refine St.weak [(30, _), (32, _)] ⟨rfl, rfl, trivial⟩ ?_
                refine St.then_n ?_
                refine St.go hK55 ?_
                clear hK55
                refine St.seq fun K56 hK56 => ?_
                refine St.region ?_
                refine St.r (R.move rfl) rfl rfl ?_
                refine St.r (Runs.lit (c := true) (R.isNil (et := 91) (e := _) Try.underlying27 rfl) (by have := ready_swap h147; simpa using this)) rfl rfl ?_
                refine St.r (R.move rfl) rfl rfl ?_
                refine St.take (dg := 252) rfl rfl ?_ rfl
                refine St.r (Runs.lit (c := true) (R.move rfl) (by rw [base_swap h147]; simp)) rfl rfl ?_
                refine St.r (R.pickT rfl rfl) rfl rfl ?_
                refine St.r (R.assign rfl) rfl rfl ?_
                refine St.nil ?_
                refine St.weak [(6, _)] ⟨rfl, trivial⟩ ?_
                refine St.then_n ?_
                refine St.go hK56 ?_
                clear hK56
                refine St.ret ?_
                refine St.ret1 Try.results3 rfl ?_
                exact ⟨_, rfl, rfl, E⟩
              ·
                refine St.region ?_
                refine St.r (R.move rfl) rfl rfl ?_
                refine St.r (Runs.lit (c := false) (R.notNil (et := 91) (e := _) Try.underlying27 rfl) (h147)) rfl rfl ?_
                refine St.r (R.move rfl) rfl rfl ?_
                refine St.take (dg := 225) rfl rfl ?_ rfl
                refine St.r (Runs.lit (c := false) (R.move rfl) (h226)) rfl rfl ?_
                refine St.take (dg := 225) rfl rfl ?_ rfl
                refine St.r (R.move rfl) rfl rfl ?_
                refine St.pass (dg := 227) rfl rfl rfl rfl rfl ?_
                refine St.pass (dg := 227) rfl rfl rfl rfl rfl ?_
                refine St.pass (dg := 227) rfl rfl rfl rfl rfl ?_
                refine St.pass (dg := 227) rfl rfl rfl rfl rfl ?_
                refine St.passU (dg := 231) rfl rfl rfl rfl ?_
                refine St.passU (dg := 231) rfl rfl rfl rfl ?_
                refine St.passU (dg := 231) rfl rfl rfl rfl ?_
                refine St.passU (dg := 231) rfl rfl rfl rfl ?_
                refine St.passU (dg := 231) rfl rfl rfl rfl ?_
                refine St.pass (dg := 227) rfl rfl rfl rfl rfl ?_
                refine St.take (dg := 225) rfl rfl ?_ rfl
                refine St.r (R.pickF rfl rfl) rfl rfl ?_
                refine St.r (R.pickF rfl rfl) rfl rfl ?_
                refine St.nil ?_
                refine St.weak [(0, _), (1, _), (2, _), (20, _), (239, _)] ⟨rfl, rfl, rfl, rfl, rfl, trivial⟩ ?_
                refine St.then_n ?_
                refine St.go hK53 ?_
                clear hK53
                refine St.condF rfl ?_
                refine St.skip ?_
                refine St.then_n ?_
                refine St.go hK52 ?_
                clear hK52
                refine St.seq fun K57 hK57 => ?_
                refine St.region ?_
                refine St.r (R.move rfl) rfl rfl ?_
                refine St.r (R.move rfl) rfl rfl ?_
                refine St.r (R.move rfl) rfl rfl ?_
                refine St.call rfl rfl ent7 (Bases_ret _ (hv.ext RCommit.firm E)) rfl ?_
                rintro r244 w244 ⟨sv244, rfl, r31, e244⟩
                replace E := Ext.trans E e244
                replace r20 := r20.ext (REnc.firm _) e244
                refine St.r (R.move rfl) rfl rfl ?_
                refine St.r (R.extract rfl rfl) rfl rfl ?_
                refine St.r (R.extract rfl rfl) rfl rfl ?_
                refine St.r (R.assign rfl) rfl rfl ?_
                refine St.r (R.assign rfl) rfl rfl ?_
                refine St.nil ?_
                refine St.weak [(20, _), (30, _), (31, _)] ⟨rfl, rfl, rfl, trivial⟩ ?_
                refine St.then_n ?_
                refine St.go hK57 ?_
                clear hK57
                refine St.seq fun K58 hK58 => ?_
                refine St.region ?_
                refine St.r (R.move rfl) rfl rfl ?_
                refine St.r (R.move rfl) rfl rfl ?_
                refine St.call rfl rfl ent11 (Ints_ret _ r31 r20) rfl ?_
                rintro r249 w249 ⟨rfl, e249⟩
                replace E := Ext.trans E e249
                replace r20 := r20.ext (REnc.firm _) e249
                replace r31 := r31.ext (REnc.firm _) e249
                refine St.r (R.assign rfl) rfl rfl ?_
                refine St.nil ?_
                refine St.weak [(30, _), (32, _)] ⟨rfl, rfl, trivial⟩ ?_
                refine St.then_n ?_
                refine St.go hK58 ?_
                clear hK58
                refine St.seq fun K59 hK59 => ?_
                refine St.region ?_
                refine St.r (R.move rfl) rfl rfl ?_
                refine St.r (Runs.lit (c := true) (R.isNil (et := 91) (e := _) Try.underlying27 rfl) (by have := ready_swap h147; simpa using this)) rfl rfl ?_
                refine St.r (R.move rfl) rfl rfl ?_
                refine St.take (dg := 252) rfl rfl ?_ rfl
                refine St.r (Runs.lit (c := true) (R.move rfl) (by rw [base_swap h147]; simp)) rfl rfl ?_
                refine St.r (R.pickT rfl rfl) rfl rfl ?_
                refine St.r (R.assign rfl) rfl rfl ?_
                refine St.nil ?_
                refine St.weak [(6, _)] ⟨rfl, trivial⟩ ?_
                refine St.then_n ?_
                refine St.go hK59 ?_
                clear hK59
                refine St.ret ?_
                refine St.ret1 Try.results3 rfl ?_
                exact ⟨_, rfl, rfl, E⟩

end Go.Proofs.Ytjgcmpondbocfaa
