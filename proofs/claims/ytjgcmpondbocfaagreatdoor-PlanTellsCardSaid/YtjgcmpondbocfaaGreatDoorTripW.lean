/- What the functions of package triple on order and faults, and set.Right, come to, each walked once. Under the reading of the arguments. -/
import Derived.Test.YtjgcmpondbocfaaGreatDoorProg
import Derived.Test.YtjgcmpondbocfaaGreatDoorTermW
namespace Go.Proofs.YtjgcmpondbocfaaGreatDoor
open Go.RowKit 
theorem ent55 : Ent Tryz.prog 55 := Ent.of Tryz.func55 (by kernel_rfl) rfl
theorem ent114 : Ent Tryz.prog 114 := Ent.of Tryz.func114 (by kernel_rfl) rfl
theorem ent121 : Ent Tryz.prog 121 := Ent.of Tryz.func121 (by kernel_rfl) rfl
theorem ent126 : Ent Tryz.prog 126 := Ent.of Tryz.func126 (by kernel_rfl) rfl
theorem ent127 : Ent Tryz.prog 127 := Ent.of Tryz.func127 (by kernel_rfl) rfl
theorem ent177 : Ent Tryz.prog 177 := Ent.of Tryz.func177 (by kernel_rfl) rfl
theorem trCompare_ret {a b : Triple} (w0 : World) : Ret Tryz.prog 127 [.agg (encTriple a).toArray, .agg (encTriple b).toArray] w0 fun r w' => r = .int .i64 (tripCmp a b) ∧ Ext w0 w' := by
  have E : Ext w0 w0 := Ext.refl w0
  refine St.enter (N := 22) Tryz.func127 rfl Tryz.ntmps127 rfl ?_
  refine St.seq fun K0 hK0 => ?_
  refine St.region ?_
  refine St.box rfl rfl ?_
  intro w2 b2 hb2 hs2 e2 k2
  have qE2 := E.size
  replace E := Ext.trans E e2
  refine St.box rfl rfl ?_
  intro w3 b3 hb3 hs3 e3 k3
  have qE3 := E.size
  replace E := Ext.trans E e3
  replace k2 := k2.ext e3
  refine St.r (R.assign rfl) rfl rfl ?_
  refine St.nil ?_
  refine St.weak [(2, _), (3, _)] ⟨rfl, rfl, trivial⟩ ?_
  refine St.then_n ?_
  refine St.go hK0 ?_
  clear hK0
  refine St.seq fun K1 hK1 => ?_
  refine St.weak [(2, _), (3, _)] ⟨rfl, rfl, trivial⟩ ?_
  refine St.drawT (S := fun _ => False) (eff := [4, 9, 14, 15, 16]) mixed rfl rfl rfl rfl ?_
  replace E := Ext.trans E (Ext.drew _)
  replace k2 := k2.ext (Ext.drew _)
  replace k3 := k3.ext (Ext.drew _)
  refine DrawT.quiet 0 rfl rfl (fun W eW => OpOk.r (R.fieldA Tryz.underlying100 rfl Tryz.sizeOf44 rfl rfl rfl) rfl) ?_
  refine DrawT.quiet 1 rfl rfl (fun W eW => OpOk.r (R.loadA Tryz.isAgg44 Tryz.sizeOf44 rfl (triple_s (k2.ext eW)) rfl) rfl) ?_
  refine DrawT.quiet 2 rfl rfl (fun W eW => OpOk.r (R.fieldA Tryz.underlying100 rfl Tryz.sizeOf44 rfl rfl rfl) rfl) ?_
  refine DrawT.quiet 3 rfl rfl (fun W eW => OpOk.r (R.loadA Tryz.isAgg44 Tryz.sizeOf44 rfl (triple_s (k3.ext eW)) rfl) rfl) ?_
  refine DrawT.quiet 5 rfl rfl (fun W eW => OpOk.r (R.fieldA Tryz.underlying100 rfl Tryz.sizeOf44 rfl rfl rfl) rfl) ?_
  refine DrawT.quiet 6 rfl rfl (fun W eW => OpOk.r (R.loadA Tryz.isAgg44 Tryz.sizeOf44 rfl (triple_p (k2.ext eW)) rfl) rfl) ?_
  refine DrawT.quiet 7 rfl rfl (fun W eW => OpOk.r (R.fieldA Tryz.underlying100 rfl Tryz.sizeOf44 rfl rfl rfl) rfl) ?_
  refine DrawT.quiet 8 rfl rfl (fun W eW => OpOk.r (R.loadA Tryz.isAgg44 Tryz.sizeOf44 rfl (triple_p (k3.ext eW)) rfl) rfl) ?_
  refine DrawT.quiet 10 rfl rfl (fun W eW => OpOk.r (R.fieldA Tryz.underlying100 rfl Tryz.sizeOf44 rfl rfl rfl) rfl) ?_
  refine DrawT.quiet 11 rfl rfl (fun W eW => OpOk.r (R.loadA Tryz.isAgg44 Tryz.sizeOf44 rfl (triple_o (k2.ext eW)) rfl) rfl) ?_
  refine DrawT.quiet 12 rfl rfl (fun W eW => OpOk.r (R.fieldA Tryz.underlying100 rfl Tryz.sizeOf44 rfl rfl rfl) rfl) ?_
  refine DrawT.quiet 13 rfl rfl (fun W eW => OpOk.r (R.loadA Tryz.isAgg44 Tryz.sizeOf44 rfl (triple_o (k3.ext eW)) rfl) rfl) ?_
  refine DrawT.one (n := 4) [] rfl rfl rfl (by kernel_rfl) (OpC.plain (Eff.call rfl rfl ent114 (tCompare_ret _)) rfl) ?_ ?_
  · rintro r9 w9 ⟨rfl, e9⟩
    refine ⟨?_, trivial⟩
    exact e9
  rintro r9 w9 ⟨rfl, e9⟩
  replace E := Ext.trans E e9
  replace k2 := k2.ext e9
  replace k3 := k3.ext e9
  refine DrawT.one (n := 9) [] rfl rfl rfl (by kernel_rfl) (OpC.plain (Eff.call rfl rfl ent114 (tCompare_ret _)) rfl) ?_ ?_
  · rintro r14 w14 ⟨rfl, e14⟩
    refine ⟨?_, trivial⟩
    exact e14
  rintro r14 w14 ⟨rfl, e14⟩
  replace E := Ext.trans E e14
  replace k2 := k2.ext e14
  replace k3 := k3.ext e14
  refine DrawT.one (n := 14) [] rfl rfl rfl (by kernel_rfl) (OpC.plain (Eff.call rfl rfl ent114 (tCompare_ret _)) rfl) ?_ ?_
  · rintro r19 w19 ⟨rfl, e19⟩
    refine ⟨?_, trivial⟩
    exact e19
  rintro r19 w19 ⟨rfl, e19⟩
  replace E := Ext.trans E e19
  replace k2 := k2.ext e19
  replace k3 := k3.ext e19
  refine DrawT.one (n := 15) [] rfl rfl rfl (by kernel_rfl) (OpC.plain (Eff.buildSl Tryz.underlying27 Tryz.sizeOf3 Tryz.zeroValue3 rfl rfl rfl rfl (by intro u hu; simp only [List.mem_cons, List.not_mem_nil, or_false] at hu; first | (subst hu; rfl) | (rcases hu with rfl | rfl <;> rfl) | (rcases hu with rfl | rfl | rfl <;> rfl))) rfl) ?_ ?_
  · rintro _ _ ⟨_, _, _, _, e, _⟩
    refine ⟨?_, trivial⟩
    exact Chg.mono e (fun _ _ h => h.elim)
  rintro _ w20 ⟨b20, rfl, hb20, hs20, e20, k20⟩
  have qE20 := E.size
  replace E := Ext.trans E e20
  replace k2 := k2.ext e20
  replace k3 := k3.ext e20
  refine DrawT.one (n := 16) [] rfl rfl rfl (by kernel_rfl) (OpC.plain (Eff.call rfl rfl ent59 (Or_ret _ (RSl.mk (enc := encInt) (xs := [termCmp a.s b.s, termCmp a.p b.p, termCmp a.o b.o]) encInt_len k20.cells (fun i u hu => hu) (by simp) (by simp)))) rfl) ?_ ?_
  · rintro r21 w21 ⟨rfl, e21⟩
    refine ⟨?_, trivial⟩
    exact e21
  rintro r21 w21 ⟨rfl, e21⟩
  replace E := Ext.trans E e21
  replace k2 := k2.ext e21
  replace k3 := k3.ext e21
  replace k20 := k20.ext e21
  refine DrawT.quiet 17 rfl rfl (fun W eW => OpOk.r (R.assign rfl) rfl) ?_
  refine DrawT.fin rfl ?_
  show St _ _ _ _ _
  refine St.weak [(4, _)] ⟨rfl, trivial⟩ ?_
  refine St.then_n ?_
  refine St.go hK1 ?_
  clear hK1
  refine St.ret ?_
  refine St.ret1 Tryz.results127 rfl ?_
  exact ⟨_, rfl, by rw [firstI3]; rfl, E⟩

theorem shape_ret {t : Triple} (w0 : World) : Ret Tryz.prog 177 [.agg (encTriple t).toArray] w0 fun r w' => r = .bool (shapeB t) ∧ Ext w0 w' := by
  have E : Ext w0 w0 := Ext.refl w0
  refine St.enter (N := 13) Tryz.func177 rfl Tryz.ntmps177 rfl ?_
  refine St.seq fun K0 hK0 => ?_
  refine St.region ?_
  refine St.box rfl rfl ?_
  intro w1 b1 hb1 hs1 e1 k1
  have qE1 := E.size
  replace E := Ext.trans E e1
  refine St.r (R.assign rfl) rfl rfl ?_
  refine St.nil ?_
  refine St.weak [(1, _)] ⟨rfl, trivial⟩ ?_
  refine St.then_n ?_
  refine St.go hK0 ?_
  clear hK0
  refine St.seq fun K1 hK1 => ?_
  by_cases h6 : t.s.kind ≠ 3
  ·
    refine St.region ?_
    refine St.r (R.fieldA Tryz.underlying100 rfl Tryz.sizeOf44 rfl rfl rfl) rfl rfl ?_
    refine St.r (R.fieldA Tryz.underlying44 rfl Tryz.sizeOf3 rfl rfl rfl) rfl rfl ?_
    refine St.r (R.load1 Tryz.isAgg3 rfl (k1.cells.at 0 rfl)) rfl rfl ?_
    refine St.r (Runs.lit (c := true) (R.neq rfl rfl) (decide_eq_true h6)) rfl rfl ?_
    refine St.r (R.move rfl) rfl rfl ?_
    refine St.take (dg := 7) rfl rfl ?_ rfl
    refine St.r (R.fieldA Tryz.underlying100 rfl Tryz.sizeOf44 rfl rfl rfl) rfl rfl ?_
    refine St.take (dg := 7) rfl rfl ?_ rfl
    refine St.r (R.fieldA Tryz.underlying44 rfl Tryz.sizeOf3 rfl rfl rfl) rfl rfl ?_
    refine St.take (dg := 7) rfl rfl ?_ rfl
    refine St.r (R.load1 Tryz.isAgg3 rfl (k1.cells.at 3 rfl)) rfl rfl ?_
    refine St.take (dg := 7) rfl rfl ?_ rfl
    refine St.r (R.eql rfl rfl) rfl rfl ?_
    refine St.r (R.pickT rfl rfl) rfl rfl ?_
    refine St.r (R.assign rfl) rfl rfl ?_
    refine St.nil ?_
    refine St.weak [(2, _)] ⟨rfl, trivial⟩ ?_
    refine St.then_n ?_
    refine St.go hK1 ?_
    clear hK1
    refine St.ret ?_
    refine St.ret1 Tryz.results177 rfl ?_
    exact ⟨_, rfl, by rw [shapeB, decide_eq_true h6, Bool.true_and], E⟩
  ·
    refine St.region ?_
    refine St.r (R.fieldA Tryz.underlying100 rfl Tryz.sizeOf44 rfl rfl rfl) rfl rfl ?_
    refine St.r (R.fieldA Tryz.underlying44 rfl Tryz.sizeOf3 rfl rfl rfl) rfl rfl ?_
    refine St.r (R.load1 Tryz.isAgg3 rfl (k1.cells.at 0 rfl)) rfl rfl ?_
    refine St.r (Runs.lit (c := false) (R.neq rfl rfl) (decide_eq_false h6)) rfl rfl ?_
    refine St.r (R.move rfl) rfl rfl ?_
    refine St.pass (dg := 7) rfl rfl rfl rfl rfl ?_
    refine St.pass (dg := 7) rfl rfl rfl rfl rfl ?_
    refine St.pass (dg := 7) rfl rfl rfl rfl rfl ?_
    refine St.pass (dg := 7) rfl rfl rfl rfl rfl ?_
    refine St.r (R.pickF rfl rfl) rfl rfl ?_
    refine St.r (R.assign rfl) rfl rfl ?_
    refine St.nil ?_
    refine St.weak [(2, _)] ⟨rfl, trivial⟩ ?_
    refine St.then_n ?_
    refine St.go hK1 ?_
    clear hK1
    refine St.ret ?_
    refine St.ret1 Tryz.results177 rfl ?_
    exact ⟨_, rfl, by rw [shapeB, decide_eq_false h6]; rfl, E⟩

theorem trCheck_ret {t : Triple} (w0 : World) : Ret Tryz.prog 126 [.agg (encTriple t).toArray] w0 fun r w' => r = errV 119 (tripErr t) ∧ Ext w0 w' := by
  have E : Ext w0 w0 := Ext.refl w0
  refine St.enter (N := 28) Tryz.func126 rfl Tryz.ntmps126 rfl ?_
  refine St.seq fun K0 hK0 => ?_
  refine St.region ?_
  refine St.box rfl rfl ?_
  intro w1 b1 hb1 hs1 e1 k1
  have qE1 := E.size
  replace E := Ext.trans E e1
  refine St.r (R.assign rfl) rfl rfl ?_
  refine St.nil ?_
  refine St.weak [(1, _)] ⟨rfl, trivial⟩ ?_
  refine St.then_n ?_
  refine St.go hK0 ?_
  clear hK0
  refine St.seq fun K1 hK1 => ?_
  refine St.seq fun K2 hK2 => ?_
  refine St.region ?_
  refine St.r (R.fieldA Tryz.underlying100 rfl Tryz.sizeOf44 rfl rfl rfl) rfl rfl ?_
  refine St.r (R.loadA Tryz.isAgg44 Tryz.sizeOf44 rfl (triple_s k1) rfl) rfl rfl ?_
  refine St.r (R.fieldA Tryz.underlying100 rfl Tryz.sizeOf44 rfl rfl rfl) rfl rfl ?_
  refine St.r (R.loadA Tryz.isAgg44 Tryz.sizeOf44 rfl (triple_p k1) rfl) rfl rfl ?_
  refine St.r (R.fieldA Tryz.underlying100 rfl Tryz.sizeOf44 rfl rfl rfl) rfl rfl ?_
  refine St.r (R.loadA Tryz.isAgg44 Tryz.sizeOf44 rfl (triple_o k1) rfl) rfl rfl ?_
  refine St.buildSl Tryz.underlying85 Tryz.sizeOf44 Tryz.zeroValue44 rfl rfl rfl rfl (by intro u hu; simp only [List.mem_cons, List.not_mem_nil, or_false] at hu; first | (subst hu; rfl) | (rcases hu with rfl | rfl <;> rfl) | (rcases hu with rfl | rfl | rfl <;> rfl) | (rcases hu with rfl | rfl | rfl | rfl <;> rfl)) rfl ?_
  intro w12 b12 hb12 hs12 e12 k12
  have qE12 := E.size
  replace E := Ext.trans E e12
  replace k1 := k1.ext e12
  have hts : RTerms w12 (.slice (some ⟨b12, 0, none⟩) (termsOf t).length 3) (termsOf t) := RSl.mk (enc := encTerm) encTerm_len k12.cells (fun i u hu => hu) (by simp [termsOf]) (by simp)
  refine St.r (R.lenSl Tryz.underlying85 rfl) rfl rfl ?_
  refine St.r (R.move rfl) rfl rfl ?_
  refine St.nil ?_
  refine St.weak [(1, _), (12, _), (13, _), (14, _)] ⟨rfl, rfl, rfl, rfl, trivial⟩ ?_
  refine St.then_n ?_
  refine St.go hK2 ?_
  clear hK2
  refine St.block ?_
  refine St.loop (fun (k : Nat) => [(1, .pointer (some ⟨b1, 0, none⟩)), (12, .slice (some ⟨b12, 0, none⟩) (termsOf t).length 3), (13, .int .i64 3), (14, .int .i64 (k : Int))])
      (fun (k : Nat) w => k ≤ 3 ∧ Ext w0 w ∧ Blk w b1 100 (encTriple t) ∧ RTerms w (.slice (some ⟨b12, 0, none⟩) (termsOf t).length 3) (termsOf t) ∧ firstE ((termsOf t).map termErr) = firstE (((termsOf t).drop k).map termErr))
      (fun (k : Nat) => 3 - k) 0 ⟨rfl, rfl, rfl, rfl, trivial⟩ ?_ ?_
  · exact ⟨Nat.zero_le _, E, k1, hts, rfl⟩
  rintro k w ⟨hk, E, k1, rts, hf⟩
  show St _ _ [(1, .pointer (some ⟨b1, 0, none⟩)), (12, .slice (some ⟨b12, 0, none⟩) (termsOf t).length 3), (13, .int .i64 3), (14, .int .i64 (k : Int))] _ _
  refine St.seq fun K3 hK3 => ?_
  refine St.region ?_
  refine St.r (R.lss rfl rfl) rfl rfl ?_
  refine St.nil ?_
  refine St.weak [(1, _), (12, _), (13, _), (14, _), (15, _)] ⟨rfl, rfl, rfl, rfl, rfl, trivial⟩ ?_
  refine St.then_n ?_
  refine St.go hK3 ?_
  clear hK3
  refine St.seq fun K4 hK4 => ?_
  refine St.condD rfl (fun h15 => ?_) (fun h15 => ?_)
  ·
    obtain ⟨x, hx⟩ := get_of_lt (xs := termsOf t) (k := k) (by simp [termsOf]; omega)
    have hb1l := k1.lt
    have hb12l : b12 < w.heap.size := World.block_lt_of_cell? w _ ((rts.get hx).at 0 rfl)
    refine St.skip ?_
    refine St.then_n ?_
    refine St.go hK4 ?_
    clear hK4
    refine St.seq fun K5 hK5 => ?_
    refine St.block ?_
    refine St.seq fun K6 hK6 => ?_
    refine St.region ?_
    refine St.r (R.indexS k Tryz.underlying85 Tryz.sizeOf44 rfl rfl rfl (by simp [termsOf]; omega)) rfl rfl ?_
    refine St.r (R.loadA Tryz.isAgg44 Tryz.sizeOf44 rfl (rts.get hx) rfl) rfl rfl ?_
    refine St.alloc Tryz.zeroValue44 rfl ?_
    intro w4 b4 hb4 hs4 e4 k4
    have qE4 := E.size
    replace E := Ext.trans E e4
    replace k1 := k1.ext e4
    replace rts := rts.ext (REnc.firm _) e4
    have hx4 := rts
    refine St.store Tryz.sizeOf44 rfl rfl k4 rfl (by simp [Value.cells, encTerm]) (one_term x) ?_
    intro ws0 ks0 gs0 zs0
    replace E := Ext.then E gs0 (by intro j hj; omega)
    replace k1 := k1.chg gs0 (by omega)
    replace rts := rts.chg gs0 (by intro _ k hk h; injection hk with hk; (try simp only at hk); omega)
    clear k4; have k4 := ks0; clear ks0
    replace k4 : Blk ws0 b4 44 (encTerm x) := k4
    refine St.nil ?_
    refine St.weak [(1, _), (4, _), (12, _), (13, _), (14, _)] ⟨rfl, rfl, rfl, rfl, rfl, trivial⟩ ?_
    refine St.then_n ?_
    refine St.go hK6 ?_
    clear hK6
    refine St.seq fun K7 hK7 => ?_
    refine St.region ?_
    refine St.r (R.loadA Tryz.isAgg44 Tryz.sizeOf44 rfl k4.cells rfl) rfl rfl ?_
    refine St.call rfl rfl ent121 (tCheck_ret _) rfl ?_
    rintro r19 w19 ⟨rfl, e19⟩
    replace E := Ext.trans E e19
    replace k1 := k1.ext e19
    replace rts := rts.ext (REnc.firm _) e19
    replace k4 := k4.ext e19
    refine St.r (R.assign rfl) rfl rfl ?_
    refine St.nil ?_
    refine St.weak [(1, _), (5, _), (12, _), (13, _), (14, _)] ⟨rfl, rfl, rfl, rfl, rfl, trivial⟩ ?_
    refine St.then_n ?_
    refine St.go hK7 ?_
    clear hK7
    refine St.seq fun K8 hK8 => ?_
    refine St.region ?_
    refine St.r (R.move rfl) rfl rfl ?_
    refine St.r (R.notNil (et := 119) (e := _) Tryz.underlying32 rfl) rfl rfl ?_
    refine St.nil ?_
    refine St.weak [(1, _), (5, _), (12, _), (13, _), (14, _), (21, _)] ⟨rfl, rfl, rfl, rfl, rfl, rfl, trivial⟩ ?_
    refine St.then_n ?_
    refine St.go hK8 ?_
    clear hK8
    refine St.cond rfl (fun h21 => ?_) (fun h21 => ?_)
    ·
      refine St.seq fun K9 hK9 => ?_
      refine St.region ?_
      refine St.r (R.move rfl) rfl rfl ?_
      refine St.r (R.assign rfl) rfl rfl ?_
      refine St.nil ?_
      refine St.weak [(2, _)] ⟨rfl, trivial⟩ ?_
      refine St.then_n ?_
      refine St.go hK9 ?_
      clear hK9
      refine St.ret ?_
      refine St.in_r ?_
      refine St.then_r ?_
      refine St.then_r ?_
      refine St.in_r ?_
      refine St.then_r ?_
      refine St.ret1 Tryz.results126 rfl ?_
      exact ⟨_, rfl, by rw [tripErr, hf, drop_at hx, List.map_cons, firstE_some h21]; cases he : termErr x <;> simp [he] at h21 ⊢, E⟩
    ·
      refine St.skip ?_
      refine St.in_n ?_
      refine St.then_n ?_
      refine St.go hK5 ?_
      clear hK5
      refine St.region ?_
      refine St.r (R.add rfl rfl (by omega) (by omega)) rfl rfl ?_
      refine St.r (R.move rfl) rfl rfl ?_
      refine St.nil ?_
      refine St.weak [(1, _), (12, _), (13, _), (14, _)] ⟨rfl, rfl, rfl, rfl, trivial⟩ ?_
      refine St.then_n ?_
      refine St.round (k + 1) ⟨rfl, rfl, rfl, rfl, trivial⟩ ?_ ?_
      · refine ⟨by omega, E, k1, rts, ?_⟩
        rw [hf, drop_at hx, List.map_cons, firstE_none h21]
      · omega
  ·
    rw [List.drop_of_length_le (by simp [termsOf]; omega)] at hf
    refine St.exit ?_
    refine St.then_x ?_
    refine St.then_x ?_
    refine St.in_x ?_
    refine St.then_n ?_
    refine St.go hK1 ?_
    clear hK1
    refine St.seq fun K10 hK10 => ?_
    refine St.seq fun K11 hK11 => ?_
    refine St.region ?_
    refine St.r (R.loadA Tryz.isAgg100 Tryz.sizeOf100 rfl k1.cells rfl) rfl rfl ?_
    refine St.call rfl rfl ent177 (shape_ret _) rfl ?_
    rintro r25 w25 ⟨rfl, e25⟩
    replace E := Ext.trans E e25
    replace k1 := k1.ext e25
    replace rts := rts.ext (REnc.firm _) e25
    refine St.r (R.not rfl) rfl rfl ?_
    refine St.nil ?_
    refine St.weak [(26, _)] ⟨rfl, trivial⟩ ?_
    refine St.then_n ?_
    refine St.go hK11 ?_
    clear hK11
    refine St.cond rfl (fun h26 => ?_) (fun h26 => ?_)
    ·
      refine St.seq fun K12 hK12 => ?_
      refine St.region ?_
      refine St.r (R.iface Tryz.underlying119 rfl rfl) rfl rfl ?_
      refine St.r (R.assign rfl) rfl rfl ?_
      refine St.nil ?_
      refine St.weak [(2, _)] ⟨rfl, trivial⟩ ?_
      refine St.then_n ?_
      refine St.go hK12 ?_
      clear hK12
      refine St.ret ?_
      refine St.then_r ?_
      refine St.ret1 Tryz.results126 rfl ?_
      have hsh : shapeB t = false := by simpa using h26
      exact ⟨_, rfl, by rw [tripErr, hf]; simp [firstE, hsh]; rfl, E⟩
    ·
      refine St.skip ?_
      refine St.then_n ?_
      refine St.go hK10 ?_
      clear hK10
      refine St.seq fun K13 hK13 => ?_
      refine St.region ?_
      refine St.r (R.assign rfl) rfl rfl ?_
      refine St.nil ?_
      refine St.weak [(2, _)] ⟨rfl, trivial⟩ ?_
      refine St.then_n ?_
      refine St.go hK13 ?_
      clear hK13
      refine St.ret ?_
      refine St.ret1 Tryz.results126 rfl ?_
      have hsh : shapeB t = true := by simpa using h26
      exact ⟨_, rfl, by rw [tripErr, hf]; simp [firstE, hsh]; rfl, E⟩

theorem Sorted_ret {l : List Triple} {v : Value} (w0 : World) (hv : RTriples w0 v l) : Ret Tryz.prog 55 [v] w0 fun r w' => r = errV 119 (setErr l) ∧ Ext w0 w' := by
  obtain ⟨A, c, rfl, hc1, hc2⟩ := hv.form
  have E : Ext w0 w0 := Ext.refl w0
  refine St.enter (N := 36) Tryz.func55 rfl Tryz.ntmps55 rfl ?_
  refine St.seq fun K0 hK0 => ?_
  refine St.region ?_
  refine St.r (R.assign rfl) rfl rfl ?_
  refine St.nil ?_
  refine St.weak [(0, _)] ⟨rfl, trivial⟩ ?_
  refine St.then_n ?_
  refine St.go hK0 ?_
  clear hK0
  refine St.seq fun K1 hK1 => ?_
  refine St.seq fun K2 hK2 => ?_
  refine St.region ?_
  refine St.r (R.move rfl) rfl rfl ?_
  refine St.r (R.lenSl Tryz.underlying22 rfl) rfl rfl ?_
  refine St.r (R.gtr rfl rfl) rfl rfl ?_
  refine St.nil ?_
  refine St.weak [(0, _), (8, _)] ⟨rfl, rfl, trivial⟩ ?_
  refine St.then_n ?_
  refine St.go hK2 ?_
  clear hK2
  refine St.condD rfl (fun h8 => ?_) (fun h8 => ?_)
  ·
    refine St.seq fun K3 hK3 => ?_
    refine St.region ?_
    refine St.r (R.iface Tryz.underlying119 rfl rfl) rfl rfl ?_
    refine St.r (R.assign rfl) rfl rfl ?_
    refine St.nil ?_
    refine St.weak [(2, _)] ⟨rfl, trivial⟩ ?_
    refine St.then_n ?_
    refine St.go hK3 ?_
    clear hK3
    refine St.ret ?_
    refine St.then_r ?_
    refine St.ret1 Tryz.results55 rfl ?_
    exact ⟨_, rfl, by rw [setErr, if_pos (by omega)]; rfl, E⟩
  ·
    have hs : setErr l = setErrFrom (pvL l 0) (l.drop 0) := by rw [setErr, if_neg (by omega)]; rfl
    refine St.skip ?_
    refine St.then_n ?_
    refine St.go hK1 ?_
    clear hK1
    refine St.seq fun K4 hK4 => ?_
    refine St.seq fun K5 hK5 => ?_
    refine St.region ?_
    refine St.r (R.move rfl) rfl rfl ?_
    refine St.r (R.lenSl Tryz.underlying22 rfl) rfl rfl ?_
    refine St.r (R.move rfl) rfl rfl ?_
    refine St.nil ?_
    refine St.weak [(0, _), (10, _), (11, _), (12, _)] ⟨rfl, rfl, rfl, rfl, trivial⟩ ?_
    refine St.then_n ?_
    refine St.go hK5 ?_
    clear hK5
    refine St.block ?_
    refine St.loop (fun (k : Nat) => [(0, .slice A l.length c), (10, .slice A l.length c), (11, .int .i64 (l.length : Int)), (12, .int .i64 (k : Int))])
        (fun (k : Nat) w => k ≤ l.length ∧ Ext w0 w ∧ setErr l = setErrFrom (pvL l k) (l.drop k))
        (fun (k : Nat) => l.length - k) 0 ⟨rfl, rfl, rfl, rfl, trivial⟩ ?_ ?_
    · exact ⟨Nat.zero_le _, E, hs⟩
    rintro k w ⟨hk, E, hs⟩
    show St _ _ [(0, .slice A l.length c), (10, .slice A l.length c), (11, .int .i64 (l.length : Int)), (12, .int .i64 (k : Int))] _ _
    refine St.seq fun K6 hK6 => ?_
    refine St.region ?_
    refine St.r (R.lss rfl rfl) rfl rfl ?_
    refine St.nil ?_
    refine St.weak [(0, _), (10, _), (11, _), (12, _), (13, _)] ⟨rfl, rfl, rfl, rfl, rfl, trivial⟩ ?_
    refine St.then_n ?_
    refine St.go hK6 ?_
    clear hK6
    refine St.seq fun K7 hK7 => ?_
    refine St.condD rfl (fun h13 => ?_) (fun h13 => ?_)
    ·
      obtain ⟨x, hx⟩ := get_of_lt (xs := l) (k := k) (by omega)
      obtain ⟨xb, xo, rfl, hxc⟩ := hv.get' hx
      refine St.skip ?_
      refine St.then_n ?_
      refine St.go hK7 ?_
      clear hK7
      refine St.seq fun K8 hK8 => ?_
      refine St.block ?_
      refine St.seq fun K9 hK9 => ?_
      refine St.region ?_
      refine St.r (R.move rfl) rfl rfl ?_
      refine St.r (R.indexS k Tryz.underlying22 Tryz.sizeOf100 rfl rfl rfl (by omega)) rfl rfl ?_
      refine St.r (R.loadA Tryz.isAgg100 Tryz.sizeOf100 rfl (E.cells hxc) rfl) rfl rfl ?_
      refine St.alloc Tryz.zeroValue100 rfl ?_
      intro w4 b4 hb4 hs4 e4 k4
      have qE4 := E.size
      replace E := Ext.trans E e4
      refine St.r (R.assign rfl) rfl rfl ?_
      refine St.store Tryz.sizeOf100 rfl rfl k4 rfl (by simp [Value.cells, encTriple, encTerm]) (one_triple x) ?_
      intro ws0 ks0 gs0 zs0
      replace E := Ext.then E gs0 (by intro j hj; omega)
      clear k4; have k4 := ks0; clear ks0
      replace k4 : Blk ws0 b4 100 (encTriple x) := k4
      refine St.nil ?_
      refine St.weak [(0, _), (3, _), (4, _), (10, _), (11, _), (12, _)] ⟨rfl, rfl, rfl, rfl, rfl, rfl, trivial⟩ ?_
      refine St.then_n ?_
      refine St.go hK9 ?_
      clear hK9
      refine St.seq fun K10 hK10 => ?_
      refine St.seq fun K11 hK11 => ?_
      refine St.region ?_
      refine St.r (R.loadA Tryz.isAgg100 Tryz.sizeOf100 rfl k4.cells rfl) rfl rfl ?_
      refine St.call rfl rfl ent126 (trCheck_ret _) rfl ?_
      rintro r18 w18 ⟨rfl, e18⟩
      replace E := Ext.trans E e18
      replace k4 := k4.ext e18
      refine St.r (R.assign rfl) rfl rfl ?_
      refine St.nil ?_
      refine St.weak [(0, _), (3, _), (4, _), (5, _), (10, _), (11, _), (12, _)] ⟨rfl, rfl, rfl, rfl, rfl, rfl, rfl, trivial⟩ ?_
      refine St.then_n ?_
      refine St.go hK11 ?_
      clear hK11
      refine St.seq fun K12 hK12 => ?_
      refine St.region ?_
      refine St.r (R.move rfl) rfl rfl ?_
      refine St.r (R.notNil (et := 119) (e := _) Tryz.underlying32 rfl) rfl rfl ?_
      refine St.nil ?_
      refine St.weak [(0, _), (3, _), (4, _), (5, _), (10, _), (11, _), (12, _), (20, _)] ⟨rfl, rfl, rfl, rfl, rfl, rfl, rfl, rfl, trivial⟩ ?_
      refine St.then_n ?_
      refine St.go hK12 ?_
      clear hK12
      refine St.cond rfl (fun h20 => ?_) (fun h20 => ?_)
      ·
        refine St.seq fun K13 hK13 => ?_
        refine St.region ?_
        refine St.r (R.move rfl) rfl rfl ?_
        refine St.r (R.assign rfl) rfl rfl ?_
        refine St.nil ?_
        refine St.weak [(2, _)] ⟨rfl, trivial⟩ ?_
        refine St.then_n ?_
        refine St.go hK13 ?_
        clear hK13
        refine St.ret ?_
        refine St.then_r ?_
        refine St.in_r ?_
        refine St.then_r ?_
        refine St.then_r ?_
        refine St.in_r ?_
        refine St.then_r ?_
        refine St.ret1 Tryz.results55 rfl ?_
        exact ⟨_, rfl, by rw [hs, drop_at hx, setErrFrom_cons]; cases he : tripErr x <;> simp [he] at h20 ⊢, E⟩
      ·
        refine St.skip ?_
        refine St.then_n ?_
        refine St.go hK10 ?_
        clear hK10
        refine St.seq fun K14 hK14 => ?_
        by_cases h23 : (0 : Int) < (k : Int)
        ·
          obtain ⟨q, hq⟩ := get_of_lt (xs := l) (k := k - 1) (by omega)
          have hqc := hv.get hq
          have hpv : pvL l k = some q := pv_prev (by omega) hq
          refine St.weak [(0, _), (3, _), (4, _), (10, _), (11, _), (12, _)] ⟨rfl, rfl, rfl, rfl, rfl, rfl, trivial⟩ ?_
          refine St.drawX mixed rfl rfl rfl rfl ?_
          replace E := Ext.trans E (Ext.drew _)
          replace k4 := k4.ext (Ext.drew _)
          refine ⟨_, fun W eW => OpX.q (OpOk.r (R.move rfl) rfl), ?_⟩
          refine ⟨_, fun W eW => OpX.q (OpOk.r (Runs.lit (c := true) (R.gtr rfl rfl) (decide_eq_true h23)) rfl), ?_⟩
          refine ⟨_, fun W eW => OpX.q (OpOk.r (R.move rfl) rfl), ?_⟩
          refine ⟨_, fun W eW => OpX.q (OpOk.take (dg := 24) (R.move rfl) rfl rfl rfl rfl), ?_⟩
          refine ⟨_, fun W eW => OpX.q (OpOk.take (dg := 24) (R.move rfl) rfl rfl rfl rfl), ?_⟩
          refine ⟨_, fun W eW => OpX.q (OpOk.take (dg := 24) (R.sub rfl rfl (by omega) (by omega)) rfl rfl rfl rfl), ?_⟩
          refine ⟨_, fun W eW => OpX.q (OpOk.take (dg := 24) (R.indexS (k - 1) Tryz.underlying22 Tryz.sizeOf100 rfl rfl (by omega) (by omega)) rfl rfl rfl rfl), ?_⟩
          refine ⟨_, fun W eW => OpX.q (OpOk.take (dg := 24) (R.loadA Tryz.isAgg100 Tryz.sizeOf100 rfl ((Ext.trans E eW).cells hqc) rfl) rfl rfl rfl rfl), ?_⟩
          refine ⟨_, fun W eW => OpX.q (OpOk.take (dg := 24) (R.loadA Tryz.isAgg100 Tryz.sizeOf100 rfl (k4.ext eW).cells rfl) rfl rfl rfl rfl), ?_⟩
          refine ⟨_, fun W eW => OpX.callG (dg := 24) rfl rfl ent127 (trCompare_ret (a := q) (b := x) _) rfl rfl rfl, ?_⟩
          refine ⟨_, fun W eW => OpX.q (OpOk.take (dg := 24) (R.geq rfl rfl) rfl rfl rfl rfl), ?_⟩
          refine ⟨_, fun W eW => OpX.q (OpOk.r (R.pickT rfl rfl) rfl), ?_⟩
          show ∀ w', Ext _ w' → St _ _ _ _ w'
          intro wd9 ed9
          replace E := Ext.trans E ed9
          replace k4 := k4.ext ed9
          refine St.weak [(0, _), (10, _), (11, _), (12, _), (33, _)] ⟨rfl, rfl, rfl, rfl, rfl, trivial⟩ ?_
          refine St.then_n ?_
          refine St.go hK14 ?_
          clear hK14
          refine St.condD rfl (fun h33 => ?_) (fun h33 => ?_)
          ·
            refine St.seq fun K15 hK15 => ?_
            refine St.region ?_
            refine St.r (R.iface Tryz.underlying119 rfl rfl) rfl rfl ?_
            refine St.r (R.assign rfl) rfl rfl ?_
            refine St.nil ?_
            refine St.weak [(2, _)] ⟨rfl, trivial⟩ ?_
            refine St.then_n ?_
            refine St.go hK15 ?_
            clear hK15
            refine St.ret ?_
            refine St.in_r ?_
            refine St.then_r ?_
            refine St.then_r ?_
            refine St.in_r ?_
            refine St.then_r ?_
            refine St.ret1 Tryz.results55 rfl ?_
            exact ⟨_, rfl, by rw [hs, drop_at hx, setErrFrom_cons, isSome_false h20, hpv]; simp only; rw [if_pos h33]; rfl, E⟩
          ·
            refine St.skip ?_
            refine St.in_n ?_
            refine St.then_n ?_
            refine St.go hK8 ?_
            clear hK8
            refine St.region ?_
            refine St.r (R.add rfl rfl (by omega) (by omega)) rfl rfl ?_
            refine St.r (R.move rfl) rfl rfl ?_
            refine St.nil ?_
            refine St.weak [(0, _), (10, _), (11, _), (12, _)] ⟨rfl, rfl, rfl, rfl, trivial⟩ ?_
            refine St.then_n ?_
            refine St.round (k + 1) ⟨rfl, rfl, rfl, rfl, trivial⟩ ?_ ?_
            · refine ⟨by omega, E, ?_⟩
              rw [hs, drop_at hx, pv_next hx, setErrFrom_cons, isSome_false h20, hpv]
              simp only
              rw [if_neg h33]
            · omega
        ·
          refine St.weak [(0, _), (3, _), (4, _), (10, _), (11, _), (12, _)] ⟨rfl, rfl, rfl, rfl, rfl, rfl, trivial⟩ ?_
          refine St.drawX mixed rfl rfl rfl rfl ?_
          replace E := Ext.trans E (Ext.drew _)
          replace k4 := k4.ext (Ext.drew _)
          refine ⟨_, fun W eW => OpX.q (OpOk.r (R.move rfl) rfl), ?_⟩
          refine ⟨_, fun W eW => OpX.q (OpOk.r (Runs.lit (c := false) (R.gtr rfl rfl) (decide_eq_false h23)) rfl), ?_⟩
          refine ⟨_, fun W eW => OpX.q (OpOk.r (R.move rfl) rfl), ?_⟩
          refine ⟨_, fun W eW => OpX.q (OpOk.pass (dg := 24) rfl rfl rfl rfl rfl), ?_⟩
          refine ⟨_, fun W eW => OpX.q (OpOk.pass (dg := 24) rfl rfl rfl rfl rfl), ?_⟩
          refine ⟨_, fun W eW => OpX.q (OpOk.pass (dg := 24) rfl rfl rfl rfl rfl), ?_⟩
          refine ⟨_, fun W eW => OpX.q (OpOk.pass (dg := 24) rfl rfl rfl rfl rfl), ?_⟩
          refine ⟨_, fun W eW => OpX.q (OpOk.pass (dg := 24) rfl rfl rfl rfl rfl), ?_⟩
          refine ⟨_, fun W eW => OpX.q (OpOk.pass (dg := 24) rfl rfl rfl rfl rfl), ?_⟩
          refine ⟨_, fun W eW => OpX.q (OpOk.pass (dg := 24) rfl rfl rfl rfl rfl), ?_⟩
          refine ⟨_, fun W eW => OpX.q (OpOk.pass (dg := 24) rfl rfl rfl rfl rfl), ?_⟩
          refine ⟨_, fun W eW => OpX.q (OpOk.r (R.pickF rfl rfl) rfl), ?_⟩
          show ∀ w', Ext _ w' → St _ _ _ _ w'
          intro wd9 ed9
          replace E := Ext.trans E ed9
          replace k4 := k4.ext ed9
          refine St.weak [(0, _), (10, _), (11, _), (12, _), (33, _)] ⟨rfl, rfl, rfl, rfl, rfl, trivial⟩ ?_
          refine St.then_n ?_
          refine St.go hK14 ?_
          clear hK14
          refine St.condF rfl ?_
          refine St.skip ?_
          refine St.in_n ?_
          refine St.then_n ?_
          refine St.go hK8 ?_
          clear hK8
          refine St.region ?_
          refine St.r (R.add rfl rfl (by omega) (by omega)) rfl rfl ?_
          refine St.r (R.move rfl) rfl rfl ?_
          refine St.nil ?_
          refine St.weak [(0, _), (10, _), (11, _), (12, _)] ⟨rfl, rfl, rfl, rfl, trivial⟩ ?_
          refine St.then_n ?_
          refine St.round (k + 1) ⟨rfl, rfl, rfl, rfl, trivial⟩ ?_ ?_
          · refine ⟨by omega, E, ?_⟩
            obtain rfl : k = 0 := by omega
            rw [hs, drop_at hx, pv_next hx, setErrFrom_cons, isSome_false h20]; rfl
          · omega
    ·
      refine St.exit ?_
      refine St.then_x ?_
      refine St.then_x ?_
      refine St.in_x ?_
      refine St.then_n ?_
      refine St.go hK4 ?_
      clear hK4
      refine St.seq fun K16 hK16 => ?_
      refine St.region ?_
      refine St.r (R.assign rfl) rfl rfl ?_
      refine St.nil ?_
      refine St.weak [(2, _)] ⟨rfl, trivial⟩ ?_
      refine St.then_n ?_
      refine St.go hK16 ?_
      clear hK16
      refine St.ret ?_
      refine St.ret1 Tryz.results55 rfl ?_
      exact ⟨_, rfl, by rw [hs, List.drop_of_length_le (by omega)]; cases k <;> rfl, E⟩


/-- Lists of triples, in a list. -/
def RTL : World → List Value → List Triple → Prop := fun w cs xs => ∃ v, cs = [v] ∧ RTriples w v xs
theorem RTL.firm : Firm RTL := fun _ _ _ _ e ⟨v, h1, h2⟩ => ⟨v, h1, h2.ext (REnc.firm _) e⟩
end Go.Proofs.YtjgcmpondbocfaaGreatDoor
